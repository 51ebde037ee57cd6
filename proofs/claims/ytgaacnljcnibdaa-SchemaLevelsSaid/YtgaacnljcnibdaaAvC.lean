/-
  The abstract step of one operation (no call of a Go function). Over every program.
-/
import Derived.Test.YtgaacnljcnibdaaAvB
noncomputable section
namespace Go.Av

/-- 'x == nil' and its kin. -/
def anil (tt : TT) (t : TypeId) : AVal → AVal → Option Bool
  | .nils, .nils => match tt t with | some ⟨.slice _, _, _, _⟩ => some true | _ => none
  | .slice _ _ _ _ _, .nils => match tt t with | some ⟨.slice _, _, _, _⟩ => some false | _ => none
  | .nils, .slice _ _ _ _ _ => match tt t with | some ⟨.slice _, _, _, _⟩ => some false | _ => none
  | .nilp, .nilp => match tt t with | some ⟨.ptr, _, _, _⟩ => some true | _ => none
  | .ptr _ _ _, .nilp => match tt t with | some ⟨.ptr, _, _, _⟩ => some false | _ => none
  | .nilp, .ptr _ _ _ => match tt t with | some ⟨.ptr, _, _, _⟩ => some false | _ => none
  | _, _ => none

/-- Do two structs of plain fields, each of one cell, agree? -/
def eqFieldsA (tt : TT) : Nat → List (Nat × TypeId) → List AVal → List AVal → Option Bool
  | _, [], [], [] => some true
  | k, (off, t) :: fs, a :: xs, b :: ys =>
    if Nat.beq off k then
      match tt t, a, b with
      | some ⟨.int _, _, _, _⟩, .int q x, .int q' y => if q == q' then (eqFieldsA tt (k + 1) fs xs ys).map (decide (x = y) && ·) else none
      | some ⟨.bool, _, _, _⟩, .bool x, .bool y => (eqFieldsA tt (k + 1) fs xs ys).map (decide (x = y) && ·)
      | some ⟨.string, _, _, _⟩, .str x, .str y => (eqFieldsA tt (k + 1) fs xs ys).map (eqb x y && ·)
      | _, _, _ => none
    else none
  | _, _, _, _ => none

def aggEq (tt : TT) (t : TypeId) (xs ys : List AVal) : Option Bool :=
  match tt t with
  | some ⟨.struct fs, _, _, _⟩ => eqFieldsA tt 0 fs xs ys
  | _ => none

def abinop (tt : TT) (op : BinOp) (t : TypeId) (a b : AVal) : Option AVal :=
  match abin tt op t a b with
  | some v => some v
  | none =>
    match op with
    | .eql => (anil tt t a b).map .bool
    | .neq => (anil tt t a b).map fun x => .bool !x
    | _ => none

def aunop (op : UnOp) : AVal → Option AVal
  | .bool b => match op with | .not => some (.bool !b) | _ => none
  | .int k n => match op with
    | .neg => some (.int k (wr k (0 - n)))
    | .xor => abits .xor k (if k.signed then -1 else k.max) n
    | _ => none
  | _ => none

def abytesToStr (tt : TT) (H : Heap) (e : TypeId) (x : AVal) : Option Res :=
  match tt e with
  | some ⟨.int .u8, _, _, _⟩ =>
    match x with
    | .nils => some (.val (.str []))
    | .slice n off len sz cap => match sliceRows H (.slice n off len sz cap) with
      | some rows => (bytesOfRows rows).map fun s => .val (.str s)
      | none => none
    | .vs _ rows => (bytesOfRows rows).map fun s => .val (.str s)
    | _ => none
  | _ => none

def aconvert (tt : TT) (H : Heap) (m : Nat) (src dst : TypeId) (x : AVal) : Option Res :=
  match tt src, tt dst, x with
  | some _, some ⟨.int k, _, _, _⟩, .int _ n => some (.val (.int k (wr k n)))
  | some _, some ⟨.string, _, _, _⟩, .str s => some (.val (.str s))
  | some _, some ⟨.string, _, _, _⟩, .int _ n => some (.val (.str (Utf8.encode n).data.toList))
  | some _, some ⟨.slice e, _, _, _⟩, .str s => match tt e with
    | some ⟨.int .u8, _, _, _⟩ => if s.length ≤ 140737488355328 then some (.new (.cells (s.map fun b => [.int .u8 b.toNat]) false) (.slice m 0 s.length 1 none)) else none
    | _ => none
  | some ⟨.slice e, _, _, _⟩, some ⟨.string, _, _, _⟩, x => abytesToStr tt H e x
  | _, _, _ => none

/-- A bound of a slice expression. -/
def abound : Option AVal → Nat → Option Nat
  | none, d => some d
  | some (.int _ i), _ => if 0 ≤ i then some i.toNat else none
  | some _, _ => none

def aslice (tt : TT) (t : TypeId) (x : AVal) (lo hi mx : Option AVal) : Option AVal :=
  match tt t, x with
  | some ⟨.string, _, _, _⟩, .str s =>
    match abound lo 0, abound hi s.length, mx with
    | some l, some h, none => if l ≤ h ∧ h ≤ s.length then some (.str ((s.drop l).take (h - l))) else none
    | _, _, _ => none
  | some ⟨.slice e, _, _, _⟩, .nils =>
    match abound lo 0, abound hi 0, abound mx 0, tt e with
    | some 0, some 0, some 0, some _ => if hi.isNone = true ∧ mx.isSome = true then none else some .nils
    | _, _, _, _ => none
  | some ⟨.slice e, _, _, _⟩, .slice n off len sz cap =>
    match abound lo 0, abound hi len, abound mx len, tt e with
    | some l, some h, some mm, some ety =>
      if l ≤ h ∧ h ≤ len ∧ h ≤ mm ∧ mm ≤ len ∧ (hi.isNone = true → mx.isNone = true) ∧ ety.size = sz then
        some (.slice n (off + l) (h - l) sz (match mx with | some _ => some (mm - l) | none => cap.map (· - l)))
      else none
    | _, _, _, _ => none
  | some ⟨.slice e, _, _, _⟩, .vs sz rows =>
    match abound lo 0, abound hi rows.length, abound mx rows.length, tt e with
    | some l, some h, some mm, some ety =>
      if l ≤ h ∧ h ≤ rows.length ∧ h ≤ mm ∧ mm ≤ rows.length ∧ (hi.isNone = true → mx.isNone = true) ∧ ety.size = sz then
        match mx with
        | none => some (.vs sz ((rows.drop l).take (h - l)))
        | some _ => if l = 0 ∧ mm = 0 then some (.zs sz) else none
      else none
    | _, _, _, _ => none
  | _, _ => none

def aindexAddr (tt : TT) (t : TypeId) (x ix : AVal) : Option AVal :=
  match tt t, x, ix with
  | some ⟨.slice e, _, _, _⟩, .slice n off len sz _, .int _ i =>
    match tt e with
    | some ety => if 0 ≤ i ∧ i < len ∧ ety.size = sz then some (.ptr n (off + i.toNat) 0) else none
    | none => none
  | some ⟨.slice e, _, _, _⟩, .vs sz rows, .int _ i =>
    match tt e with
    | some ety => if 0 ≤ i ∧ i < rows.length ∧ ety.size = sz then some (.vp (rows.getD i.toNat []) 0) else none
    | none => none
  | some ⟨.array len e, _, _, _⟩, .ptr n k j, .int _ i =>
    match tt e with
    | some ety => if 0 ≤ i ∧ i < len then some (.ptr n k (j + i.toNat * ety.size)) else none
    | none => none
  | _, _, _ => none

def apart (tt : TT) (t : TypeId) (cs : List AVal) (off : Nat) : Option AVal :=
  match tt t with
  | some ty => if isAggK ty.kd then (if off + ty.size ≤ cs.length then some (.agg ((cs.drop off).take ty.size)) else none) else cs[off]?
  | none => none

def aindex (tt : TT) (t : TypeId) (x ix : AVal) : Option AVal :=
  match tt t, x, ix with
  | some ⟨.string, _, _, _⟩, .str s, .int _ i => if 0 ≤ i then (match s[i.toNat]? with | some b => some (.int .u8 b.toNat) | none => none) else none
  | some ⟨.array len e, _, _, _⟩, .agg cs, .int _ i =>
    match tt e with
    | some ety => if 0 ≤ i ∧ i < len then apart tt e cs (i.toNat * ety.size) else none
    | none => none
  | _, _, _ => none

def aload (tt : TT) (H : Heap) (t : TypeId) (x : AVal) : Option AVal :=
  match x with
  | .ptr n k j =>
    match H.get n, tt t with
    | some (.cells rows _), some ty =>
      match rows[k]? with
      | some row => if isAggK ty.kd then (if j + ty.size ≤ row.length then some (.agg ((row.drop j).take ty.size)) else none) else row[j]?
      | none => none
    | _, _ => none
  | .vp row j =>
    match tt t with
    | some ty => if isAggK ty.kd then (if j + ty.size ≤ row.length then some (.agg ((row.drop j).take ty.size)) else none) else row[j]?
    | none => none
  | _ => none

def astore (tt : TT) (H : Heap) (t : TypeId) (x v : AVal) : Option Heap :=
  match x with
  | .ptr n k j =>
    match H.get n, tt t with
    | some (.cells rows false), some ty =>
      match rows[k]? with
      | some row => if v.cells.length = ty.size ∧ allLeaf v.cells = true ∧ j + ty.size ≤ row.length then some (H.set n (some (.cells (rows.set k (splice row j v.cells)) false))) else none
      | none => none
    | _, _ => none
  | _ => none

def afieldAddr (tt : TT) (s : TypeId) (x : AVal) (f : Nat) : Option AVal :=
  match tt s, x with
  | some ⟨.struct fs, _, _, _⟩, .ptr n k j =>
    match fs[f]? with
    | some (off, t) => match tt t with
      | some ty => if ty.size = 0 then none else some (.ptr n k (j + off))
      | none => none
    | none => none
  | some ⟨.struct fs, _, _, _⟩, .vp row j =>
    match fs[f]? with
    | some (off, t) => match tt t with
      | some ty => if ty.size = 0 then none else some (.vp row (j + off))
      | none => none
    | none => none
  | _, _ => none

def afield (tt : TT) (s : TypeId) (x : AVal) (f : Nat) : Option AVal :=
  match tt s, x with
  | some ⟨.struct fs, _, _, _⟩, .agg cs =>
    match fs[f]? with
    | some (off, t) => apart tt t cs off
    | none => none
  | _, _ => none

def abuild (tt : TT) (t : TypeId) (parts : List (Nat × AVal)) : Option AVal :=
  match tt t with
  | some ⟨.struct fs, _, _, .agg zs⟩ => if (fs.all fun f => (tt f.2).isSome) = true ∧ allLeaf zs = true then (afill (fieldPlaces tt fs) zs parts).map .agg else none
  | some ⟨.array _ e, _, _, .agg zs⟩ => match tt e with
    | some ety => if allLeaf zs = true then (afill (fun i => some (i * ety.size, ety.size)) zs parts).map .agg else none
    | none => none
  | _ => none

/-- A flat row of n pieces, cut. -/
def chop (size : Nat) : Nat → List AVal → List (List AVal)
  | 0, _ => []
  | n + 1, l => l.take size :: chop size n (l.drop size)

def repeatCells (z : List AVal) : Nat → List AVal
  | 0 => []
  | n + 1 => z ++ repeatCells z n

def abuildSlice (tt : TT) (m : Nat) (t : TypeId) (len : Nat) (parts : List (Nat × AVal)) : Option Res :=
  match tt t with
  | some ⟨.slice e, _, _, _⟩ => match tt e with
    | some ety =>
      if 0 < ety.size ∧ ety.zero.cells.length = ety.size ∧ allLeaf ety.zero.cells = true ∧ len * ety.size ≤ 16777216 then
        (afill (fun i => some (i * ety.size, ety.size)) (repeatCells ety.zero.cells len) parts).map fun row => .new (.cells (chop ety.size len row) false) (.slice m 0 len ety.size (some len))
      else none
    | none => none
  | _ => none

def amakeSlice (tt : TT) (m : Nat) (t : TypeId) (l c : AVal) : Option Res :=
  match tt t, l, c with
  | some ⟨.slice e, _, _, _⟩, .int _ l, .int _ c => match tt e with
    | some ety =>
      if 0 < ety.size ∧ ety.zero.cells.length = ety.size ∧ allLeaf ety.zero.cells = true ∧ 0 ≤ l ∧ l ≤ c ∧ c * ety.bytes ≤ 281474976710656 ∧ c ≤ 281474976710656 then
        some (.new (.cells (List.replicate c.toNat ety.zero.cells) false) (.slice m 0 l.toNat ety.size (some c.toNat)))
      else none
    | none => none
  | _, _, _ => none

def seqKd : Kd → Bool
  | .slice _ | .string => true
  | _ => false

def aappend (tt : TT) (H : Heap) (m : Nat) (argTypes : Array TypeId) (s x : AVal) : Option Res :=
  match argTypes[0]? with
  | some t => match tt t with
    | some ⟨.slice e, _, _, _⟩ => match tt e, (argTypes[1]?).bind tt with
      | some ety, some xty =>
        if seqKd xty.kd = true then
        match sliceRows H x with
        | some news =>
          if (news.all fun r => Nat.beq r.length ety.size) = true ∧ 0 < ety.size ∧ ety.zero.cells.length = ety.size ∧ allLeaf ety.zero.cells = true then
            match s with
            | .zs sz => if news.length = 0 then some (.val (.zs sz)) else if news.length * ety.bytes ≤ 140737488355328 ∧ news.length ≤ 140737488355328 then some (.new (.cells news false) (.slice m 0 news.length ety.size none)) else none
            | .nils => if news.length = 0 then some (.val .nils) else if news.length * ety.bytes ≤ 140737488355328 ∧ news.length ≤ 140737488355328 then some (.new (.cells news false) (.slice m 0 news.length ety.size none)) else none
            | .slice n off len sz cap =>
              if sz = ety.size ∧ (len + news.length) * ety.bytes ≤ 140737488355328 ∧ len + news.length ≤ 140737488355328 then
                if news.length = 0 then some (.val s) else
                match sliceRows H s with
                | some olds =>
                  match cap with
                  | some c => if c < len + news.length then some (.new (.cells (olds ++ news) false) (.slice m 0 (len + news.length) sz none))
                    else match H.get n with
                      | some (.cells rows false) => if off + len + news.length ≤ rows.length then
                          some (.upd (H.set n (some (.cells (rows.take (off + len) ++ news ++ rows.drop (off + len + news.length)) false))) (.slice n off (len + news.length) sz cap)) else none
                      | _ => none
                  | none => match H.get n with
                    | some (.cells _ false) => some (.upd ((H.set n none).set m (some (.cells (olds ++ news) false))) (.slice m 0 (len + news.length) sz none))
                    | _ => none
                | none => none
              else none
            | _ => none
          else none
        | none => none
        else none
      | _, _ => none
    | _ => none
  | none => none

def alen (tt : TT) (argTypes : Array TypeId) (x : AVal) : Option AVal :=
  match (argTypes[0]?).bind tt, x with
  | some ⟨.string, _, _, _⟩, .str s => some (.int .i64 s.length)
  | some ⟨.slice _, _, _, _⟩, .nils => some (.int .i64 0)
  | some ⟨.slice _, _, _, _⟩, .slice _ _ len _ _ => some (.int .i64 len)
  | some ⟨.slice _, _, _, _⟩, .vs _ rows => some (.int .i64 rows.length)
  | some ⟨.slice _, _, _, _⟩, .zs _ => some (.int .i64 0)
  | some ⟨.array n _, _, _, _⟩, _ => some (.int .i64 n)
  | _, _ => none

def amin2 (a b : AVal) : Option AVal :=
  match a, b with
  | .int k x, .int _ y => some (.int k (if y < x then y else x))
  | _, _ => none
def amax2 (a b : AVal) : Option AVal :=
  match a, b with
  | .int k x, .int _ y => some (.int k (if x < y then y else x))
  | _, _ => none

def anext (H : Heap) (x : AVal) : Option Res :=
  match x with
  | .obj n => match H.get n with
    | some (.iter s pos) => if pos < s.length then
        some (.upd (H.set n (some (.iter s (pos + (Utf8.decode ⟨⟨s⟩⟩ pos).2)))) (.tup [.bool true, .int .i64 pos, .int .i32 (Utf8.decode ⟨⟨s⟩⟩ pos).1]))
      else some (.val (.tup [.bool false]))
    | _ => none
  | _ => none

def abuiltin (tt : TT) (H : Heap) (m : Nat) (b : Builtin) (argTypes : Array TypeId) (args : List AVal) : Option Res :=
  match b, args with
  | .len, [x] => (alen tt argTypes x).map .val
  | .append, [s, x] => aappend tt H m argTypes s x
  | .min, [a, b] => (amin2 a b).map .val
  | .max, [a, b] => (amax2 a b).map .val
  | _, _ => none

def aop (tt : TT) (ρ : Operand → AVal) (H : Heap) (m : Nat) : Op → Option Res
  | .move x | .assign x => some (.val (ρ x))
  | .pick c a b => match ρ c with
    | .bool t => some (.val (match ρ a, ρ b with | .bool x, .bool y => .bool (if t then x else y) | x, y => if t then x else y))
    | _ => none
  | .alloc e => match tt e with
    | some ty => if allLeaf ty.zero.cells = true then some (.new (.cells [ty.zero.cells] false) (.ptr m 0 0)) else none
    | none => none
  | .box _ x => if allLeaf (ρ x).cells = true then some (.new (.cells [(ρ x).cells] false) (.ptr m 0 0)) else none
  | .build t parts => (abuild tt t (parts.toList.map fun p => (p.1, ρ p.2))).map .val
  | .buildSlice t len parts => abuildSlice tt m t len (parts.toList.map fun p => (p.1, ρ p.2))
  | .load t x => (aload tt H t (ρ x)).map .val
  | .store t x v => (astore tt H t (ρ x) (ρ v)).map fun h => .upd h .any
  | .nilCheck x => match ρ x with
    | .ptr n k j => some (.val (.ptr n k j))
    | .vp row j => some (.val (.vp row j))
    | .func f cs => some (.val (.func f cs))
    | _ => none
  | .binOp op t x y _ => match ρ x, ρ y with
    | .agg xs, .agg ys => match op with
      | .eql => (aggEq tt t xs ys).map fun b => .val (.bool b)
      | .neq => (aggEq tt t xs ys).map fun b => .val (.bool !b)
      | _ => none
    | a, b => (abinop tt op t a b).map .val
  | .unOp op _ x => (aunop op (ρ x)).map .val
  | .convert src dst x => aconvert tt H m src dst (ρ x)
  | .makeFunc (.func f) first caps => if first.size = 0 then some (.val (.func f (caps.toList.map ρ))) else none
  | .makeSlice t l c => amakeSlice tt m t (ρ l) (ρ c)
  | .slice t x lo hi mx => (aslice tt t (ρ x) (lo.map ρ) (hi.map ρ) (mx.map ρ)).map .val
  | .fieldAddr s x f => (afieldAddr tt s (ρ x) f).map .val
  | .field s x f => (afield tt s (ρ x) f).map .val
  | .indexAddr t x ix => (aindexAddr tt t (ρ x) (ρ ix)).map .val
  | .index t x ix => (aindex tt t (ρ x) (ρ ix)).map .val
  | .range t x => match tt t, ρ x with
    | some ⟨.string, _, _, _⟩, .str s => some (.new (.iter s 0) (.obj m))
    | _, _ => none
  | .next it true => anext H (ρ it)
  | .extract t ix => match ρ t with
    | .tup vs => (vs[ix]?).map .val
    | _ => none
  | .call { callee := .builtin b, args, argTypes } => abuiltin tt H m b argTypes (args.toList.map ρ)
  | _ => none

end Go.Av
