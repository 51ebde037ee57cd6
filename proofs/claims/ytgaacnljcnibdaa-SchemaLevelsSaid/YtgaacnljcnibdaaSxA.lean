/-
  The abstract step with numbers, texts and rows that are not known: what must hold for it to go on, and what it gives. Over every program.
-/
import Derived.Test.YtgaacnljcnibdaaAvZ
set_option linter.unusedVariables false
set_option linter.unusedSimpArgs false
noncomputable section
namespace Go.Av

/-! A table as rows -/
def AVal.un : AVal → AVal
  | .vt sz n f => .vs sz (tabR n f)
  | x => x
theorem un_vt (sz n : Nat) (f : Nat → List AVal) : (AVal.vt sz n f).un = .vs sz (tabR n f) := rfl
theorem RelV.un [Syms] {ι : Inj} {x : AVal} {v : Value} (h : RelV ι x v) : RelV ι x.un v := by
  cases h with
  | vt sz n f v h => exact h
  | any v => exact .any v
  | bool b => exact .bool b
  | int k n => exact .int k n
  | str s => exact .str s
  | nilp => exact .nilp
  | ptr n k j L h => exact .ptr n k j L h
  | nils => exact .nils
  | slice n off len sz cap L a c h hs ha hl hp hm hc => exact .slice n off len sz cap L a c h hs ha hl hp hm hc
  | agg cs vs hl h => exact .agg cs vs hl h
  | tup cs vs hl h => exact .tup cs vs hl h
  | func f cs vs hl h => exact .func f cs vs hl h
  | nilf => exact .nilf
  | nili => exact .nili
  | iface t x v h => exact .iface t x v h
  | obj n L h => exact .obj n L h
  | sym n => exact .sym n
  | vs sz rows g o c cs hf hl hm hp hr h1 h => exact .vs sz rows g o c cs hf hl hm hp hr h1 h
  | vz sz a c hm hc => exact .vz sz a c hm hc
  | vp row j g b cs hf hp h1 h => exact .vp row j g b cs hf hp h1 h
  | zs sz a => exact .zs sz a
theorem tabR_length (n : Nat) (f : Nat → List AVal) : (tabR n f).length = n := by simp [tabR]
theorem tabR_getD {n : Nat} {f : Nat → List AVal} {i : Nat} (h : i < n) : (tabR n f).getD i [] = f i := by simp [tabR, h]
theorem tabR_cut {n : Nat} {f : Nat → List AVal} {l h : Nat} (hh : h ≤ n) : ((tabR n f).drop l).take (h - l) = tabR (h - l) fun i => f (l + i) := by
  apply List.ext_getElem?
  intro i
  rw [List.getElem?_take, List.getElem?_drop]
  unfold tabR
  by_cases hi : i < h - l
  · have : l + i < n := by omega
    simp [hi, this]
  · simp [hi]
/-- One result stands for another one. -/
def Res.sees [Syms] : Res → Res → Prop
  | .val v', .val v => ∀ ι u, RelV ι v' u → RelV ι v u
  | .new b' v', .new b v => b' = b ∧ ∀ ι u, RelV ι v' u → RelV ι v u
  | .upd h' v', .upd h v => h' = h ∧ ∀ ι u, RelV ι v' u → RelV ι v u
  | _, _ => False
theorem Res.sees_refl [Syms] (r : Res) : r.sees r := by
  cases r with
  | val v => exact fun _ _ h => h
  | new b v => exact ⟨rfl, fun _ _ h => h⟩
  | upd h v => exact ⟨rfl, fun _ _ h => h⟩

/-! What a cell holds, read by its kind -/
def asI : AVal → Int
  | .int _ n => n
  | _ => 0
def asB : AVal → Bool
  | .bool b => b
  | _ => false
def asS : AVal → List UInt8
  | .str s => s
  | _ => []
def asR : AVal → List (List AVal)
  | .vs _ r => r
  | _ => []
def asZ : AVal → Nat
  | .vs z _ => z
  | _ => 0
def isI (k : IntKind) : AVal → Bool
  | .int k' _ => k == k'
  | _ => false
def isB : AVal → Bool
  | .bool _ => true
  | _ => false
def isS : AVal → Bool
  | .str _ => true
  | _ => false
def isV : AVal → Bool
  | .vs _ _ => true
  | _ => false
def isK : AVal → Bool
  | .any => false
  | _ => true

def projC (deep : Bool) (z c : AVal) : AVal :=
  match z with
  | .int k _ => .int k (asI c)
  | .bool _ => .bool (asB c)
  | .str _ => .str (asS c)
  | .nils => bif deep then .vs (asZ c) (asR c) else c
  | _ => c
def isC (deep : Bool) (z c : AVal) : Bool :=
  match z with
  | .int k _ => isI k c
  | .bool _ => isB c
  | .str _ => isS c
  | .nils => bif deep then isV c else isK c
  | _ => isK c
theorem projC_eq [Syms] {deep : Bool} {z c : AVal} (h : isC deep z c = true) : projC deep z c = c ∧ c ≠ .any := by
  unfold isC at h
  unfold projC
  split at h
  · cases c with
    | int k n => exact ⟨by rw [eq_of_beq h]; rfl, AVal.noConfusion⟩
    | _ => cases h
  · cases c with
    | bool b => exact ⟨rfl, AVal.noConfusion⟩
    | _ => cases h
  · cases c with
    | str s => exact ⟨rfl, AVal.noConfusion⟩
    | _ => cases h
  · cases deep with
    | true =>
      cases c with
      | vs z r => exact ⟨rfl, AVal.noConfusion⟩
      | _ => cases h
    | false => exact ⟨rfl, fun e => by subst e; cases h⟩
  · exact ⟨rfl, fun e => by subst e; cases h⟩

def projRow (deep : Bool) : List AVal → List AVal → Nat → List AVal
  | [], _, _ => []
  | z :: zs, row, j => projC deep z (row.getD j .any) :: projRow deep zs row (j + 1)
def isRow (deep : Bool) : List AVal → List AVal → Nat → Bool
  | [], _, _ => true
  | z :: zs, row, j => isC deep z (row.getD j .any) && isRow deep zs row (j + 1)
theorem getD_lt [Syms] {row : List AVal} {j : Nat} (h : row.getD j .any ≠ .any) : j < row.length ∧ row[j]? = some (row.getD j .any) := by
  rcases Nat.lt_or_ge j row.length with h' | h'
  · exact ⟨h', by simp [h']⟩
  · exact absurd (by simp [h']) h
theorem projRow_eq [Syms] {deep : Bool} : ∀ {zs row : List AVal} {j : Nat}, isRow deep zs row j = true → projRow deep zs row j = (row.drop j).take zs.length ∧ (zs ≠ [] → j + zs.length ≤ row.length)
  | [], row, j, _ => ⟨by simp [projRow], fun h => absurd rfl h⟩
  | z :: zs, row, j, h => by
    simp only [isRow, Bool.and_eq_true] at h
    obtain ⟨h1, h2⟩ := projC_eq h.1
    obtain ⟨h3, h4⟩ := getD_lt h2
    obtain ⟨h5, h6⟩ := projRow_eq h.2
    refine ⟨?_, fun _ => ?_⟩
    · simp only [projRow, h1, h5, List.length_cons]
      rw [List.drop_eq_getElem_cons h3, List.take_succ_cons]
      simp [h3]
    · rw [List.length_cons]
      cases zs with
      | nil => simp; omega
      | cons z' zs' => have := h6 (by simp); simp at this ⊢; omega

/-- Blocks whose cells are read by their kind alone: by number. -/
def isArr (n : Nat) : Bool := Nat.blt n 65536 && Nat.beq (n % 2) 1

def cellsT (ty : Ty) (deep : Bool) (row : List AVal) (j : Nat) (K : AVal → Prop) : Prop :=
  match isAggK ty.kd with
  | true => match ty.zero with
    | .agg zs => bif Nat.beq zs.length ty.size && Nat.blt 0 ty.size then isRow deep zs row j = true ∧ K (.agg (projRow deep zs row j)) else False
    | _ => False
  | false => isC deep ty.zero (row.getD j .any) = true ∧ K (projC deep ty.zero (row.getD j .any))
def loadT (tt : TT) (H : Heap) (t : TypeId) (x : AVal) (K : AVal → Prop) : Prop :=
  match tt t with
  | none => False
  | some ty =>
    match x with
    | .ptr n k j => match H.get n with
      | some (.cells rows _) => cellsT ty (isArr n) (rows.getD k []) j K
      | _ => False
    | .vp row j => cellsT ty true row j K
    | _ => False

theorem cellsT_sound [Syms] {ty : Ty} {deep : Bool} {row : List AVal} {j : Nat} {K : AVal → Prop} (h : cellsT ty deep row j K) :
    ∃ v, (if isAggK ty.kd then (if j + ty.size ≤ row.length then some (.agg ((row.drop j).take ty.size)) else none) else row[j]?) = some v ∧ K v ∧ row ≠ [] := by
  unfold cellsT at h
  split at h
  · rename_i hk
    rw [hk]
    split at h
    · rename_i zs hz
      cases hb : (Nat.beq zs.length ty.size && Nat.blt 0 ty.size) with
      | false => rw [hb] at h; exact h.elim
      | true =>
        rw [hb] at h
        simp only [cond_true] at h
        simp only [Bool.and_eq_true, Nat.blt_eq] at hb
        have hl := Nat.eq_of_beq_eq_true hb.1
        obtain ⟨h1, h2⟩ := projRow_eq h.1
        have h3 := h2 (fun e => by subst e; have : (0 : Nat) = ty.size := hl; omega)
        rw [h1, hl] at h
        refine ⟨_, by simp only [if_true]; rw [if_pos (by omega)], h.2, fun e => by rw [e] at h3; have h3 : j + zs.length ≤ 0 := h3; omega⟩
    · exact h.elim
  · rename_i hk
    rw [hk]
    obtain ⟨h1, h2⟩ := projC_eq h.1
    obtain ⟨h3, h4⟩ := getD_lt h2
    rw [h1] at h
    exact ⟨_, by simpa using h4, h.2, fun e => by rw [e] at h3; simp at h3⟩
theorem loadT_sound [Syms] {tt : TT} {H : Heap} {t : TypeId} {x : AVal} {K : AVal → Prop} (h : loadT tt H t x K) : ∃ v, aload tt H t x = some v ∧ K v := by
  unfold loadT at h
  split at h
  · exact h.elim
  · rename_i ty hty
    split at h
    · rename_i n k j
      split at h
      · rename_i rows ro hb
        obtain ⟨v, h1, h2, h3⟩ := cellsT_sound h
        refine ⟨v, ?_, h2⟩
        have hk : rows[k]? = some (rows.getD k []) := by
          rcases Nat.lt_or_ge k rows.length with h' | h'
          · simp [h']
          · exact absurd (by simp [h']) h3
        simp only [aload, hb, hty, hk]
        exact h1
      · exact h.elim
    · rename_i row j
      obtain ⟨v, h1, h2, _⟩ := cellsT_sound h
      exact ⟨v, by simp only [aload, hty]; exact h1, h2⟩
    · exact h.elim

def storeT (tt : TT) (H : Heap) (t : TypeId) (x v : AVal) (K : Res → Prop) : Prop :=
  match tt t, x with
  | some ty, .ptr n k j => match H.get n with
    | some (.cells rows false) =>
      bif Nat.beq v.cells.length ty.size && allLeaf v.cells then (k < rows.length ∧ j + ty.size ≤ (rows.getD k []).length) ∧ K (.upd (H.set n (some (.cells (rows.set k (splice (rows.getD k []) j v.cells)) false))) .any) else False
    | _ => False
  | _, _ => False
theorem storeT_sound [Syms] {tt : TT} {H : Heap} {t : TypeId} {x v : AVal} {K : Res → Prop} (h : storeT tt H t x v K) : ∃ H', astore tt H t x v = some H' ∧ K (.upd H' .any) := by
  unfold storeT at h
  split at h
  · rename_i ty n k j hty
    split at h
    · rename_i rows hb
      cases hc : (Nat.beq v.cells.length ty.size && allLeaf v.cells) with
      | false => rw [hc] at h; exact h.elim
      | true =>
        rw [hc] at h
        simp only [cond_true] at h
        simp only [Bool.and_eq_true] at hc
        obtain ⟨⟨h1, h2⟩, h3⟩ := h
        refine ⟨_, ?_, h3⟩
        have hk : rows[k]? = some (rows.getD k []) := by simp [h1]
        simp only [astore, hb, hty, hk]
        rw [if_pos ⟨Nat.eq_of_beq_eq_true hc.1, hc.2, h2⟩]
    · exact h.elim
  · exact h.elim

def i64T (x : Int) (K : Int → Prop) : Prop := (-9223372036854775808 ≤ x ∧ x ≤ 9223372036854775807) ∧ K x
def wrT (k : IntKind) (x : Int) (K : Int → Prop) : Prop :=
  match k with
  | .i64 => i64T x K
  | k => K (wr k x)
theorem wrT_sound [Syms] {k : IntKind} {x : Int} {K : Int → Prop} (h : wrT k x K) : K (wr k x) := by
  unfold wrT at h
  split at h
  · obtain ⟨h1, h2⟩ := h
    have : wr .i64 x = x := by
      unfold wr
      rw [if_pos]
      exact h1
    rw [this]; exact h2
  · exact h

def binT (tt : TT) (op : BinOp) (t : TypeId) (x y : AVal) (K : AVal → Prop) : Prop :=
  match x, y with
  | .int k a, .int k' b =>
    match op with
    | .add => bif k == k' then wrT k (a + b) fun z => K (.int k z) else False
    | .sub => bif k == k' then wrT k (a - b) fun z => K (.int k z) else False
    | .mul => bif k == k' then wrT k (a * b) fun z => K (.int k z) else False
    | .quo => bif k == k' then b ≠ 0 ∧ K (.int k (wr k (a.tdiv b))) else False
    | .rem => bif k == k' then b ≠ 0 ∧ K (.int k (a.tmod b)) else False
    | .shl => 0 ≤ b ∧ K (.int k (wr k (a * 2 ^ min b.toNat k.bits)))
    | .shr => 0 ≤ b ∧ K (.int k (a.fdiv (2 ^ min b.toNat k.bits)))
    | op => match abin tt op t (.int k a) (.int k' b) with
      | some v => K v
      | none => False
  | .str s, .str u =>
    match op with
    | .add => s.length + u.length ≤ 9223372036854775807 ∧ K (.str (s ++ u))
    | op => match abin tt op t (.str s) (.str u) with
      | some v => K v
      | none => False
  | x, y => match abinop tt op t x y with
    | some v => K v
    | none => False
theorem abinop_of {tt : TT} {op : BinOp} {t : TypeId} {x y v : AVal} (h : abin tt op t x y = some v) : abinop tt op t x y = some v := by
  unfold abinop; rw [h]
theorem binT_sound [Syms] {tt : TT} {op : BinOp} {t : TypeId} {x y : AVal} {K : AVal → Prop} (h : binT tt op t x y K) : ∃ v, abinop tt op t x y = some v ∧ K v := by
  unfold binT at h
  split at h
  · rename_i k a k' b
    split at h
    all_goals first
      | (cases hk : (k == k') with
          | false => rw [hk] at h; exact h.elim
          | true =>
            rw [hk] at h
            simp only [cond_true] at h
            first
              | exact ⟨_, abinop_of (by simp only [abin, hk, if_true]), wrT_sound h⟩
              | exact ⟨_, abinop_of (by simp only [abin, hk, if_true, if_neg h.1]), h.2⟩)
      | exact ⟨_, abinop_of (by simp only [abin, if_pos h.1]), h.2⟩
      | (split at h
         · rename_i v hv
           exact ⟨v, abinop_of hv, h⟩
         · exact h.elim)
  · rename_i s u
    split at h
    · exact ⟨_, abinop_of (by simp only [abin, if_pos h.1]), h.2⟩
    · split at h
      · rename_i v hv
        exact ⟨v, abinop_of hv, h⟩
      · exact h.elim
  · split at h
    · rename_i v hv
      exact ⟨v, hv, h⟩
    · exact h.elim

def boundT (x : Option AVal) (d : Nat) (K : Nat → Prop) : Prop :=
  match x with
  | none => K d
  | some (.int _ i) => 0 ≤ i ∧ K i.toNat
  | some _ => False
theorem boundT_sound {x : Option AVal} {d : Nat} {K : Nat → Prop} (h : boundT x d K) : ∃ n, abound x d = some n ∧ K n := by
  unfold boundT at h
  split at h
  · exact ⟨d, rfl, h⟩
  · exact ⟨_, by simp only [abound, if_pos h.1], h.2⟩
  · exact h.elim

def sliceT (tt : TT) (t : TypeId) (x : AVal) (lo hi mx : Option AVal) (K : AVal → Prop) : Prop :=
  match tt t, x with
  | some ⟨.string, _, _, _⟩, .str s => match mx with
    | none => boundT lo 0 fun l => boundT hi s.length fun h => (l ≤ h ∧ h ≤ s.length) ∧ K (.str ((s.drop l).take (h - l)))
    | some _ => False
  | some ⟨.slice e, _, _, _⟩, .slice n off len sz cap =>
    match tt e with
    | some ety => bif Nat.beq ety.size sz && (!hi.isNone || mx.isNone) then
        boundT lo 0 fun l => boundT hi len fun h => boundT mx len fun mm => (l ≤ h ∧ h ≤ len ∧ h ≤ mm ∧ mm ≤ len) ∧ K (.slice n (off + l) (h - l) sz (match mx with | some _ => some (mm - l) | none => cap.map (· - l)))
      else False
    | none => False
  | some ⟨.slice e, _, _, _⟩, .vs sz rows =>
    match tt e with
    | some ety => bif Nat.beq ety.size sz && (!hi.isNone || mx.isNone) then
        match mx with
        | none => boundT lo 0 fun l => boundT hi rows.length fun h => (l ≤ h ∧ h ≤ rows.length) ∧ K (.vs sz ((rows.drop l).take (h - l)))
        | some m => boundT lo 0 fun l => boundT hi rows.length fun h => boundT (some m) rows.length fun mm => (l ≤ h ∧ h ≤ rows.length ∧ h ≤ mm ∧ mm ≤ rows.length ∧ l = 0 ∧ mm = 0) ∧ K (.zs sz)
      else False
    | none => False
  | _, _ => match aslice tt t x lo hi mx with
    | some v => K v
    | none => False
theorem sliceT_sound [Syms] {tt : TT} {t : TypeId} {x : AVal} {lo hi mx : Option AVal} {K : AVal → Prop} (h : sliceT tt t x lo hi mx K) : ∃ v, aslice tt t x lo hi mx = some v ∧ K v := by
  unfold sliceT at h
  split at h
  · rename_i s hty
    split at h
    · obtain ⟨l, hl, h⟩ := boundT_sound h
      obtain ⟨hh, hhh, h1, h2⟩ := boundT_sound h
      exact ⟨_, by simp only [aslice, hty, hl, hhh, if_pos h1], h2⟩
    · exact h.elim
  · rename_i e _ _ _ n off len sz cap hty
    split at h
    · rename_i ety hety
      cases hb : (Nat.beq ety.size sz && (!hi.isNone || mx.isNone)) with
      | false => rw [hb] at h; exact h.elim
      | true =>
        rw [hb] at h
        simp only [cond_true] at h
        simp only [Bool.and_eq_true, Bool.or_eq_true, Bool.not_eq_true'] at hb
        obtain ⟨l, hl, h⟩ := boundT_sound h
        obtain ⟨hh, hhh, h⟩ := boundT_sound h
        obtain ⟨mm, hm, h1, h2⟩ := boundT_sound h
        refine ⟨_, ?_, h2⟩
        unfold aslice
        simp only [hty, hl, hhh, hm, hety]
        rw [if_pos ⟨h1.1, h1.2.1, h1.2.2.1, h1.2.2.2, fun hn => hb.2.resolve_left (by rw [hn]; simp), Nat.eq_of_beq_eq_true hb.1⟩]
        rfl
    · exact h.elim
  · rename_i e _ _ _ sz rows hty
    split at h
    · rename_i ety hety
      cases hb : (Nat.beq ety.size sz && (!hi.isNone || mx.isNone)) with
      | false => rw [hb] at h; exact h.elim
      | true =>
        rw [hb] at h
        simp only [cond_true] at h
        simp only [Bool.and_eq_true, Bool.or_eq_true, Bool.not_eq_true'] at hb
        split at h
        · obtain ⟨l, hl, h⟩ := boundT_sound h
          obtain ⟨hh, hhh, h1, h2⟩ := boundT_sound h
          refine ⟨_, ?_, h2⟩
          have hm : abound none rows.length = some rows.length := rfl
          simp only [aslice, hty, hl, hhh, hety, hm]
          rw [if_pos ⟨h1.1, h1.2, h1.2, Nat.le_refl _, fun _ => rfl, Nat.eq_of_beq_eq_true hb.1⟩]
        · rename_i m
          obtain ⟨l, hl, h⟩ := boundT_sound h
          obtain ⟨hh, hhh, h⟩ := boundT_sound h
          obtain ⟨mm, hm, ⟨c1, c2, c3, c4, c5, c6⟩, h2⟩ := boundT_sound h
          refine ⟨_, ?_, h2⟩
          simp only [aslice, hty, hl, hhh, hm, hety]
          rw [if_pos ⟨c1, c2, c3, c4, fun hn => hb.2.resolve_left (by rw [hn]; simp), Nat.eq_of_beq_eq_true hb.1⟩, if_pos ⟨c5, c6⟩]
    · exact h.elim
  · split at h
    · rename_i v hv
      exact ⟨v, hv, h⟩
    · exact h.elim

theorem boundT_mono {x : Option AVal} {d : Nat} {K K' : Nat → Prop} (hk : ∀ n, K n → K' n) (h : boundT x d K) : boundT x d K' := by
  unfold boundT at h ⊢
  split
  · exact hk _ h
  · exact ⟨h.1, hk _ h.2⟩
  · rename_i x hno
    cases x with
    | int k i => exact absurd rfl (hno k i)
    | _ => exact h
def sliceVt (tt : TT) (t : TypeId) (sz n : Nat) (f : Nat → List AVal) (lo hi mx : Option AVal) (K : AVal → Prop) : Prop :=
  match tt t with
  | some ⟨.slice e, _, _, _⟩ => match tt e with
    | some ety => bif Nat.beq ety.size sz && (!hi.isNone || mx.isNone) then
        match mx with
        | none => boundT lo 0 fun l => boundT hi n fun h => (l ≤ h ∧ h ≤ n) ∧ K (.vt sz (h - l) fun i => f (l + i))
        | some m => boundT lo 0 fun l => boundT hi n fun h => boundT (some m) n fun mm => (l ≤ h ∧ h ≤ n ∧ h ≤ mm ∧ mm ≤ n ∧ l = 0 ∧ mm = 0) ∧ K (.zs sz)
      else False
    | none => False
  | _ => False
theorem sliceVt_sound [Syms] {tt : TT} {t : TypeId} {sz n : Nat} {f : Nat → List AVal} {lo hi mx : Option AVal} {K : AVal → Prop} (h : sliceVt tt t sz n f lo hi mx K) : ∃ v', aslice tt t (.vs sz (tabR n f)) lo hi mx = some v' ∧ ∃ v, (∀ ι u, RelV ι v' u → RelV ι v u) ∧ K v := by
  have key : sliceT tt t (.vs sz (tabR n f)) lo hi mx fun v' => ∃ v, (∀ ι u, RelV ι v' u → RelV ι v u) ∧ K v := by
    unfold sliceVt at h
    split at h
    · rename_i e b c z hty
      split at h
      · rename_i ety hety
        unfold sliceT
        simp only [hty, hety]
        cases hb : (Nat.beq ety.size sz && (!hi.isNone || mx.isNone)) with
        | false => rw [hb] at h; exact h.elim
        | true =>
          rw [hb] at h
          simp only [cond_true] at h ⊢
          cases mx with
          | none =>
            simp only [tabR_length] at h ⊢
            refine boundT_mono (fun l h => boundT_mono (fun hh h => ⟨h.1, _, fun ι u hu => ?_, h.2⟩) h) h
            rw [tabR_cut h.1.2] at hu
            exact .vt _ _ _ _ hu
          | some m =>
            simp only [tabR_length] at h ⊢
            exact boundT_mono (fun l h => boundT_mono (fun hh h => boundT_mono (fun mm h => ⟨h.1, _, fun ι u hu => hu, h.2⟩) h) h) h
      · exact h.elim
    · exact h.elim
  exact sliceT_sound key
theorem abound_un (x : Option AVal) (d : Nat) : abound (x.map AVal.un) d = abound x d := by
  cases x with
  | none => rfl
  | some v => cases v <;> rfl

def idxAddrT (tt : TT) (t : TypeId) (x ix : AVal) (K : AVal → Prop) : Prop :=
  match tt t, x, ix with
  | some ⟨.slice e, _, _, _⟩, .slice n off len sz _, .int _ i => match tt e with
    | some ety => bif Nat.beq ety.size sz then (0 ≤ i ∧ i < len) ∧ K (.ptr n (off + i.toNat) 0) else False
    | none => False
  | some ⟨.slice e, _, _, _⟩, .vs sz rows, .int _ i => match tt e with
    | some ety => bif Nat.beq ety.size sz then (0 ≤ i ∧ i < rows.length) ∧ K (.vp (rows.getD i.toNat []) 0) else False
    | none => False
  | some ⟨.array len e, _, _, _⟩, .ptr n k j, .int _ i => match tt e with
    | some ety => (0 ≤ i ∧ i < len) ∧ K (.ptr n k (j + i.toNat * ety.size))
    | none => False
  | _, _, _ => False
theorem idxAddrT_sound [Syms] {tt : TT} {t : TypeId} {x ix : AVal} {K : AVal → Prop} (h : idxAddrT tt t x ix K) : ∃ v, aindexAddr tt t x ix = some v ∧ K v := by
  unfold idxAddrT at h
  split at h
  · rename_i e _ _ _ n off len sz _ _ i hty
    split at h
    · rename_i ety hety
      cases hb : Nat.beq ety.size sz with
      | false => rw [hb] at h; exact h.elim
      | true =>
        rw [hb] at h
        simp only [cond_true] at h
        exact ⟨_, by simp only [aindexAddr, hty, hety, if_pos (And.intro h.1.1 (And.intro h.1.2 (Nat.eq_of_beq_eq_true hb)))], h.2⟩
    · exact h.elim
  · rename_i e _ _ _ sz rows _ i hty
    split at h
    · rename_i ety hety
      cases hb : Nat.beq ety.size sz with
      | false => rw [hb] at h; exact h.elim
      | true =>
        rw [hb] at h
        simp only [cond_true] at h
        exact ⟨_, by simp only [aindexAddr, hty, hety, if_pos (And.intro h.1.1 (And.intro h.1.2 (Nat.eq_of_beq_eq_true hb)))], h.2⟩
    · exact h.elim
  · rename_i hty
    split at h
    · rename_i ety hety
      exact ⟨_, by simp only [aindexAddr, hty, hety, if_pos h.1], h.2⟩
    · exact h.elim
  · exact h.elim

def idxVt (tt : TT) (t : TypeId) (sz n : Nat) (f : Nat → List AVal) (ix : AVal) (K : AVal → Prop) : Prop :=
  match tt t, ix with
  | some ⟨.slice e, _, _, _⟩, .int _ i => match tt e with
    | some ety => bif Nat.beq ety.size sz then (0 ≤ i ∧ i < n) ∧ K (.vp (f i.toNat) 0) else False
    | none => False
  | _, _ => False
theorem idxVt_sound [Syms] {tt : TT} {t : TypeId} {sz n : Nat} {f : Nat → List AVal} {ix : AVal} {K : AVal → Prop} (h : idxVt tt t sz n f ix K) : ix.un = ix ∧ ∃ v, aindexAddr tt t (.vs sz (tabR n f)) ix = some v ∧ K v := by
  unfold idxVt at h
  split at h
  · rename_i e _ _ _ _ i hty
    split at h
    · rename_i ety hety
      cases hb : Nat.beq ety.size sz with
      | false => rw [hb] at h; exact h.elim
      | true =>
        rw [hb] at h
        simp only [cond_true] at h
        obtain ⟨⟨h1, h2⟩, h3⟩ := h
        refine ⟨rfl, _, ?_, h3⟩
        have h4 : i < ((tabR n f).length : Nat) := by rw [tabR_length]; exact h2
        simp only [aindexAddr, hty, hety, if_pos (And.intro h1 (And.intro h4 (Nat.eq_of_beq_eq_true hb)))]
        rw [tabR_getD (by omega)]
    · exact h.elim
  · exact h.elim

def indexT (tt : TT) (t : TypeId) (x ix : AVal) (K : AVal → Prop) : Prop :=
  match tt t, x, ix with
  | some ⟨.string, _, _, _⟩, .str s, .int _ i => (0 ≤ i ∧ i.toNat < s.length) ∧ K (.int .u8 (s.getD i.toNat 0).toNat)
  | _, x, ix => match aindex tt t x ix with
    | some v => K v
    | none => False
theorem indexT_sound [Syms] {tt : TT} {t : TypeId} {x ix : AVal} {K : AVal → Prop} (h : indexT tt t x ix K) : ∃ v, aindex tt t x ix = some v ∧ K v := by
  unfold indexT at h
  split at h
  · rename_i s _ i hty
    obtain ⟨⟨h1, h2⟩, h3⟩ := h
    have : s[i.toNat]? = some (s.getD i.toNat 0) := by simp [h2]
    exact ⟨_, by simp only [aindex, hty, if_pos h1, this], h3⟩
  · split at h
    · rename_i v hv
      exact ⟨v, hv, h⟩
    · exact h.elim

def sliceRowsT (H : Heap) (x : AVal) (K : List (List AVal) → Nat → Prop) : Prop :=
  match x with
  | .slice n off len _ _ => match H.get n with
    | some (.cells rows _) => off + len ≤ rows.length ∧ K ((rows.drop off).take len) len
    | _ => False
  | x => match sliceRows H x with
    | some r => K r r.length
    | none => False
theorem sliceRowsT_sound [Syms] {H : Heap} {x : AVal} {K : List (List AVal) → Nat → Prop} (h : sliceRowsT H x K) : ∃ r, sliceRows H x = some r ∧ K r r.length := by
  unfold sliceRowsT at h
  split at h
  · split at h
    · rename_i n off len sz cap _ rows ro hb
      refine ⟨(rows.drop off).take len, by simp only [sliceRows, hb, if_pos h.1], ?_⟩
      have : ((rows.drop off).take len).length = len := by have := h.1; simp; omega
      rw [this]; exact h.2
    · exact h.elim
  · split at h
    · rename_i r hr
      exact ⟨r, hr, h⟩
    · exact h.elim

/-- One way or the other, by what holds. -/
def iteP (p a b : Prop) : Prop := (p → a) ∧ (¬ p → b)
/-- How long what is appended is: the rows of a new one are as long as its elements. -/
def allLen (z : Nat) (rows : List (List AVal)) : Bool := rows.all fun r => Nat.beq r.length z
def appendT (tt : TT) (H : Heap) (m : Nat) (argTypes : Array TypeId) (s x : AVal) (K : Res → Prop) : Prop :=
  match (argTypes[0]?).bind tt, (argTypes[1]?).bind tt with
  | some ⟨.slice e, _, _, _⟩, some xty => match tt e with
    | some ety =>
      bif seqKd xty.kd && Nat.blt 0 ety.size && Nat.beq ety.zero.cells.length ety.size && allLeaf ety.zero.cells then
        sliceRowsT H x fun news nl => allLen ety.size news = true ∧
          (match s with
          | .zs sz => iteP (nl = 0) (K (.val (.zs sz))) ((nl * ety.bytes ≤ 140737488355328 ∧ nl ≤ 140737488355328) ∧ K (.new (.cells news false) (.slice m 0 nl ety.size none)))
          | .nils => iteP (nl = 0) (K (.val .nils)) ((nl * ety.bytes ≤ 140737488355328 ∧ nl ≤ 140737488355328) ∧ K (.new (.cells news false) (.slice m 0 nl ety.size none)))
          | .slice n off len sz cap =>
            bif Nat.beq sz ety.size then
              ((len + nl) * ety.bytes ≤ 140737488355328 ∧ len + nl ≤ 140737488355328) ∧
              iteP (nl = 0) (K (.val (.slice n off len sz cap)))
                (match H.get n with
                | some (.cells rows ro) => off + len ≤ rows.length ∧
                  (match cap with
                  | some c => iteP (c < len + nl) (K (.new (.cells ((rows.drop off).take len ++ news) false) (.slice m 0 (len + nl) sz none)))
                      (off + len + nl ≤ rows.length ∧ (bif ro then False else K (.upd (H.set n (some (.cells (rows.take (off + len) ++ news ++ rows.drop (off + len + nl)) false))) (.slice n off (len + nl) sz cap))))
                  | none => bif ro then False else K (.upd ((H.set n none).set m (some (.cells ((rows.drop off).take len ++ news) false))) (.slice m 0 (len + nl) sz none)))
                | _ => False)
            else False
          | _ => False)
      else False
    | none => False
  | _, _ => False
theorem appendT_sound [Syms] {tt : TT} {H : Heap} {m : Nat} {argTypes : Array TypeId} {s x : AVal} {K : Res → Prop} (h : appendT tt H m argTypes s x K) : ∃ r, aappend tt H m argTypes s x = some r ∧ K r := by
  unfold appendT at h
  split at h
  rotate_left
  · exact h.elim
  rename_i e _ _ _ xty h0 h1
  obtain ⟨t0, ht0, ht0'⟩ := Option.bind_eq_some_iff.1 h0
  split at h
  rotate_left
  · exact h.elim
  rename_i ety hety
  cases hb : (seqKd xty.kd && Nat.blt 0 ety.size && Nat.beq ety.zero.cells.length ety.size && allLeaf ety.zero.cells) with
  | false => rw [hb] at h; exact h.elim
  | true =>
  rw [hb] at h
  simp only [cond_true] at h
  simp only [Bool.and_eq_true, Nat.blt_eq] at hb
  obtain ⟨⟨⟨b1, b2⟩, b3⟩, b4⟩ := hb
  have b3 := Nat.eq_of_beq_eq_true b3
  obtain ⟨news, hnews, hall, h⟩ := sliceRowsT_sound h
  have pre : (news.all fun r => Nat.beq r.length ety.size) = true ∧ 0 < ety.size ∧ ety.zero.cells.length = ety.size ∧ allLeaf ety.zero.cells = true := ⟨hall, b2, b3, b4⟩
  unfold aappend
  simp only [ht0, ht0', hety, h1, b1, if_true, hnews]
  rw [if_pos pre]
  split at h
  · by_cases hz : news.length = 0
    · replace h := h.1 hz
      exact ⟨_, by simp only [hz, if_true], h⟩
    · replace h := h.2 hz
      exact ⟨_, by simp only [if_neg hz, if_pos h.1], h.2⟩
  · by_cases hz : news.length = 0
    · replace h := h.1 hz
      exact ⟨_, by simp only [hz, if_true], h⟩
    · replace h := h.2 hz
      exact ⟨_, by simp only [if_neg hz, if_pos h.1], h.2⟩
  · rename_i n off len sz cap _
    cases hs : Nat.beq sz ety.size with
    | false => rw [hs] at h; exact h.elim
    | true =>
      rw [hs] at h
      simp only [cond_true] at h
      obtain ⟨hle, h⟩ := h
      have hs := Nat.eq_of_beq_eq_true hs
      simp only [if_pos (And.intro hs hle)]
      by_cases hz : news.length = 0
      · replace h := h.1 hz
        exact ⟨_, by simp only [hz, if_true], h⟩
      · replace h := h.2 hz
        simp only [if_neg hz]
        split at h
        · rename_i rows ro hg
          obtain ⟨hol, h⟩ := h
          have hsr : sliceRows H (.slice n off len sz cap) = some ((rows.drop off).take len) := by simp only [sliceRows, hg, if_pos hol]
          simp only [hsr]
          cases cap with
          | some c =>
            simp only at h
            by_cases hc : c < len + news.length
            · replace h := h.1 hc
              exact ⟨_, by simp only [if_pos hc], h⟩
            · replace h := h.2 hc
              simp only [if_neg hc]
              obtain ⟨hr, h⟩ := h
              cases ro with
              | true => exact h.elim
              | false => exact ⟨_, by simp only [hg, if_pos hr], h⟩
          | none =>
            simp only at h
            cases ro with
            | true => exact h.elim
            | false => exact ⟨_, by simp only [hg], h⟩
        · exact h.elim
  · exact h.elim

end Go.Av
