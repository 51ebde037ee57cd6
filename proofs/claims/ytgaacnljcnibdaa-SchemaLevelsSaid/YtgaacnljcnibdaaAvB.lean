/-
  What an operation does, seen abstractly: a function that can be run. Over every program.
-/
import Derived.Test.YtgaacnljcnibdaaAvA
noncomputable section
namespace Go.Av

inductive Kd where
  | bool | int (k : IntKind) | string | ptr | slice (e : TypeId) | array (n : Nat) (e : TypeId) | struct (fs : List (Nat × TypeId)) | func | other
  deriving Inhabited

/-- What is known of a type. -/
structure Ty where
  kd : Kd
  size : Nat
  bytes : Nat
  zero : AVal
  deriving Inhabited

def Kd.fits : Kd → TypeDesc → Bool
  | .bool, .bool => true
  | .int k, .int k' => k == k'
  | .string, .string => true
  | .ptr, .pointer _ => true
  | .slice e, .slice e' => Nat.beq e e'
  | .array n e, .array n' e' => Nat.beq n n' && Nat.beq e e'
  | .struct fs, .struct gs => fs == gs.toList.map fun f => (f.offset, f.type)
  | .func, .func _ _ _ => true
  | .other, .struct _ => false
  | .other, .array _ _ => false
  | .other, _ => true
  | _, _ => false

def leafFits : AVal → Value → Bool
  | .bool a, .bool b => a == b
  | .int k a, .int k' b => k == k' && a == b
  | .str s, .string b => s == b.data.toList
  | .nilp, .pointer none => true
  | .nils, .slice none 0 0 => true
  | .nilf, .nilFunc => true
  | .nili, .nilIface => true
  | _, _ => false
def allFit : List AVal → List Value → Bool
  | [], [] => true
  | a :: as, v :: vs => leafFits a v && allFit as vs
  | _, _ => false
def valFits : AVal → Value → Bool
  | .agg cs, .agg vs => allFit cs vs.toList
  | .any, _ => true
  | a, v => leafFits a v

theorem leafFits_rel [Syms] {a : AVal} {v : Value} (h : leafFits a v = true) (ι : Inj) : RelV ι a v ∧ a.leaf = true ∧ v.oneCell' = true := by
  unfold leafFits at h
  split at h <;> simp at h
  · subst h; exact ⟨.bool _, rfl, rfl⟩
  · obtain ⟨rfl, rfl⟩ := h; exact ⟨.int _ _, rfl, rfl⟩
  · rename_i b
    obtain ⟨⟨l⟩⟩ := b
    simp at h
    subst h
    exact ⟨.str _, rfl, rfl⟩
  · exact ⟨.nilp, rfl, rfl⟩
  · exact ⟨.nils, rfl, rfl⟩
  · exact ⟨.nilf, rfl, rfl⟩
  · exact ⟨.nili, rfl, rfl⟩
theorem allFit_rel [Syms] : ∀ {as : List AVal} {vs : List Value}, allFit as vs = true → ∀ ι, RelL ι as vs ∧ (∀ c ∈ as, c.leaf = true) ∧ ∀ v ∈ vs, v.oneCell' = true
  | [], [], _, ι => ⟨.nil ι, by simp, by simp⟩
  | a :: as, v :: vs, h, ι => by
    simp only [allFit, Bool.and_eq_true] at h
    obtain ⟨h1, h2, h3⟩ := leafFits_rel h.1 ι
    obtain ⟨k1, k2, k3⟩ := allFit_rel h.2 ι
    exact ⟨.cons h1 k1, by simpa using ⟨h2, k2⟩, by simpa using ⟨h3, k3⟩⟩
  | [], _ :: _, h, _ => by simp [allFit] at h
  | _ :: _, [], h, _ => by simp [allFit] at h

def tyFits (P : Program) (t : TypeId) (ty : Ty) : Bool :=
  match P.underlying t, P.info? t with
  | some d, some i => ty.kd.fits d && (match d with | .struct fs => !P.stoodInHeld t && fs.toList.all (fun f => f.name != "_") | _ => true) && Nat.beq i.size ty.size && Nat.beq i.bytes ty.bytes && (match i.zero with | some z => valFits ty.zero z | none => (match ty.zero with | .any => true | _ => false))
  | _, _ => false

abbrev TT := TypeId → Option Ty
def TT.ok (P : Program) (tt : TT) : Prop := ∀ t ty, tt t = some ty → tyFits P t ty = true

def tyFind : List (TypeId × Ty) → TypeId → Option Ty
  | [], _ => none
  | (u, ty) :: r, t => bif Nat.beq t u then some ty else tyFind r t
theorem tyFind_ok {P : Program} {l : List (TypeId × Ty)} (h : (l.all fun p => tyFits P p.1 p.2) = true) : TT.ok P (tyFind l) := by
  intro t ty hf
  induction l with
  | nil => simp [tyFind] at hf
  | cons x r ih =>
    obtain ⟨u, y⟩ := x
    simp only [List.all_cons, Bool.and_eq_true] at h
    simp only [tyFind] at hf
    cases hb : Nat.beq t u with
    | true =>
      rw [hb] at hf
      simp only [cond_true, Option.some.injEq] at hf
      have : t = u := Nat.eq_of_beq_eq_true hb
      subst this; subst hf
      exact h.1
    | false =>
      rw [hb] at hf
      exact ih h.2 hf

inductive Res where
  | val (v : AVal)
  | new (b : Blk) (v : AVal)
  | upd (h : Heap) (v : AVal)
def Res.v : Res → AVal
  | .val v | .new _ v | .upd _ v => v
def Res.isVal : Res → Bool
  | .val _ => true
  | _ => false
def Res.heap (H : Heap) (m : Nat) : Res → Heap
  | .val _ => H
  | .new b _ => H.set m (some b)
  | .upd h _ => h

def wr (k : IntKind) (x : Int) : Int := if k.min ≤ x ∧ x ≤ k.max then x else k.wrap x

def eqb : List UInt8 → List UInt8 → Bool
  | [], [] => true
  | a :: s, b :: t => Nat.beq a.toNat b.toNat && eqb s t
  | _, _ => false

theorem eqb_eq [Syms] : ∀ (s t : List UInt8), eqb s t = decide (s = t)
  | [], [] => by simp [eqb]
  | [], _ :: _ => by simp [eqb]
  | _ :: _, [] => by simp [eqb]
  | a :: s, b :: t => by
    simp only [eqb, eqb_eq s t]
    by_cases h : a = b
    · subst h; simp
    · have : Nat.beq a.toNat b.toNat = false := beq_ff (fun e => h (UInt8.toNat_inj.1 e))
      simp [this, h]

def abits (op : BinOp) (k : IntKind) (x y : Int) : Option AVal :=
  let a := BitVec.ofInt k.bits x
  let b := BitVec.ofInt k.bits y
  match op with
  | .and => some (.int k (k.wrap (a &&& b).toNat))
  | .or => some (.int k (k.wrap (a ||| b).toNat))
  | .xor => some (.int k (k.wrap (a ^^^ b).toNat))
  | .andNot => some (.int k (k.wrap (a &&& ~~~b).toNat))
  | _ => none

def abin (tt : TT) (op : BinOp) (t : TypeId) : AVal → AVal → Option AVal
  | .int k a, .int k' b =>
    match op with
    | .shl => if 0 ≤ b then some (.int k (wr k (a * 2 ^ min b.toNat k.bits))) else none
    | .shr => if 0 ≤ b then some (.int k (a.fdiv (2 ^ min b.toNat k.bits))) else none
    | _ =>
      if k == k' then
        match op with
        | .add => some (.int k (wr k (a + b)))
        | .sub => some (.int k (wr k (a - b)))
        | .mul => some (.int k (wr k (a * b)))
        | .quo => if b = 0 then none else some (.int k (wr k (a.tdiv b)))
        | .rem => if b = 0 then none else some (.int k (a.tmod b))
        | .eql => some (.bool (decide (a = b)))
        | .neq => some (.bool (decide (a ≠ b)))
        | .lss => some (.bool (decide (a < b)))
        | .leq => some (.bool (decide (a ≤ b)))
        | .gtr => some (.bool (decide (b < a)))
        | .geq => some (.bool (decide (b ≤ a)))
        | op => abits op k a b
      else none
  | .str s, .str u =>
    match op with
    | .add => if (s.length + u.length : Nat) ≤ 9223372036854775807 then some (.str (s ++ u)) else none
    | .eql => some (.bool (eqb s u))
    | .neq => some (.bool (!eqb s u))
    | .lss => some (.bool (Op.bytesLess s u))
    | .leq => some (.bool (Op.bytesLess s u || eqb s u))
    | .gtr => some (.bool (!(Op.bytesLess s u || eqb s u)))
    | .geq => some (.bool (!Op.bytesLess s u))
    | _ => none
  | .bool a, .bool b =>
    match tt t, op with
    | some ⟨.bool, _, _, _⟩, .eql => some (.bool (decide (a = b)))
    | some ⟨.bool, _, _, _⟩, .neq => some (.bool (decide (a ≠ b)))
    | _, _ => none
  | _, _ => none

/-- A part laid over a row. -/
def splice (row : List AVal) (off : Nat) (cs : List AVal) : List AVal := row.take off ++ cs ++ row.drop (off + cs.length)

def allLeaf (cs : List AVal) : Bool := cs.all (·.leaf)

/-- Fields laid over a zero value. -/
def afill (place : Nat → Option (Nat × Nat)) : List AVal → List (Nat × AVal) → Option (List AVal)
  | row, [] => some row
  | row, (i, v) :: rest =>
    match place i with
    | some (off, size) => if v.cells.length = size ∧ off + size ≤ row.length ∧ allLeaf v.cells = true then afill place (splice row off v.cells) rest else none
    | none => none

def fieldPlaces (tt : TT) (fs : List (Nat × TypeId)) (i : Nat) : Option (Nat × Nat) :=
  match fs[i]? with
  | some (off, t) => (tt t).map fun ty => (off, ty.size)
  | none => none

/-- The rows that a slice holds. -/
def sliceRows (H : Heap) : AVal → Option (List (List AVal))
  | .nils => some []
  | .slice n off len _ _ => match H.get n with
    | some (.cells rows _) => if off + len ≤ rows.length then some ((rows.drop off).take len) else none
    | _ => none
  | .str s => some (s.map fun b => [.int .u8 b.toNat])
  | .vs _ rows => some rows
  | .zs _ => some []
  | _ => none

def byteOfRow : List AVal → Option UInt8
  | [.int .u8 b] => some (UInt8.ofNat b.toNat)
  | _ => none
def bytesOfRows : List (List AVal) → Option (List UInt8)
  | [] => some []
  | r :: rs => match byteOfRow r, bytesOfRows rs with
    | some b, some bs => some (b :: bs)
    | _, _ => none

def constVal : Value → AVal
  | .bool b => .bool b
  | .int k n => .int k n
  | .string s => .str s.data.toList
  | .pointer none => .nilp
  | .slice none 0 0 => .nils
  | .nilFunc => .nilf
  | .nilIface => .nili
  | _ => .any
def constAgg : Value → AVal
  | .agg cs => .agg (cs.toList.map constVal)
  | v => constVal v

def isAggK : Kd → Bool
  | .struct _ | .array _ _ => true
  | _ => false

end Go.Av
