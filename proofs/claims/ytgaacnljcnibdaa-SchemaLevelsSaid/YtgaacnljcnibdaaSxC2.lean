/-
  The same, with every value laid out as soon as it is there. Over every program.
-/
import Derived.Test.YtgaacnljcnibdaaSxC
set_option linter.unusedVariables false
set_option linter.unusedSimpArgs false
noncomputable section
namespace Go.Av

def forceV1 (v : AVal) (K : AVal → Prop) : Prop :=
  match v with
  | .any => K .any
  | .bool b => K (.bool b)
  | .int k n => K (.int k n)
  | .str s => K (.str s)
  | .nilp => K .nilp
  | .ptr n k j => K (.ptr n k j)
  | .nils => K .nils
  | .slice n off len sz cap => K (.slice n off len sz cap)
  | .agg cs => K (.agg cs)
  | .tup cs => K (.tup cs)
  | .func f cs => K (.func f cs)
  | .nilf => K .nilf
  | .nili => K .nili
  | .iface t v => K (.iface t v)
  | .obj n => K (.obj n)
  | .sym n => K (.sym n)
  | .vs sz rows => K (.vs sz rows)
  | .vp row j => K (.vp row j)
  | .zs sz => K (.zs sz)
  | .vt sz n f => K (.vt sz n f)
theorem forceV1_eq (v : AVal) (K : AVal → Prop) : forceV1 v K = K v := by cases v <;> rfl
def forceL (l : List AVal) (K : List AVal → Prop) : Prop :=
  match l with
  | [] => K []
  | x :: l => forceV1 x fun x => forceL l fun l => K (x :: l)
theorem forceL_eq : ∀ (l : List AVal) (K : List AVal → Prop), forceL l K = K l
  | [], K => rfl
  | x :: l, K => by simp only [forceL, forceV1_eq, forceL_eq l]
def forceV (v : AVal) (K : AVal → Prop) : Prop :=
  match v with
  | .agg cs => forceL cs fun cs => K (.agg cs)
  | .tup cs => forceL cs fun cs => K (.tup cs)
  | .func f cs => forceL cs fun cs => K (.func f cs)
  | v => forceV1 v K
theorem forceV_eq (v : AVal) (K : AVal → Prop) : forceV v K = K v := by
  unfold forceV
  split
  · exact forceL_eq _ _
  · exact forceL_eq _ _
  · exact forceL_eq _ _
  · exact forceV1_eq _ _
def forceB (b : Option Blk) (K : Option Blk → Prop) : Prop :=
  match b with
  | none => K none
  | some (.cells rows ro) => @Bool.rec (fun _ => Prop) (K (some (.cells rows false))) (K (some (.cells rows true))) ro
  | some (.iter s p) => K (some (.iter s p))
theorem forceB_eq (b : Option Blk) (K : Option Blk → Prop) : forceB b K = K b := by
  cases b with
  | none => rfl
  | some b => cases b with
    | cells rows ro => cases ro <;> rfl
    | iter s p => rfl
def forceH (H : Heap) (K : Heap → Prop) : Prop :=
  match H with
  | [] => K []
  | (n, b) :: t => forceB b fun b => forceH t fun t => K ((n, b) :: t)
theorem forceH_eq : ∀ (H : Heap) (K : Heap → Prop), forceH H K = K H
  | [], K => rfl
  | (n, b) :: t, K => by simp only [forceH, forceB_eq, forceH_eq t]

def putE (e : Env) (d : Option Tmp) (v : AVal) (K : Env → Prop) : Prop := forceV v fun v => match d with
  | some d => K ((d, v) :: e)
  | none => K e
theorem putE_eq (e : Env) (d : Option Tmp) (v : AVal) (K : Env → Prop) : putE e d v K = K (e.put d v) := by
  unfold putE
  rw [forceV_eq]
  cases d <;> rfl
def execE (c : CallT) (tt : TT) (N : Nat) (ops : Array Oper) (o : Oper) (kn : Kn) (e : Env) (H : Heap) (nx : Nat) (K : Kn → Env → Heap → Nat → Prop) : Prop :=
  bif dstOk N o.dst then
    guardT ops o kn e
      (fun kn e => match asCall o.op with
        | some (fo, args) => match evE e fo with
          | .func fid caps => forceL (args.toList.map (evE e) ++ caps) fun as => c fid as H nx fun v H' nx' => putE e o.dst v fun e => forceH H' fun H => K kn e H nx'
          | _ => False
        | none => opT tt (evE e) H nx o.op fun r => match r with
          | .val v => putE e o.dst v fun e => K kn e H nx
          | .new b v => putE e o.dst v fun e => forceH (H.set nx (some b)) fun H => K kn e H (nx + 1)
          | .upd h v => putE e o.dst v fun e => forceH h fun H => K kn e H (nx + 1))
      (fun kn e => putE e o.dst undefA fun e => K kn e H nx)
  else False
theorem execE_eq (c : CallT) (tt : TT) (N : Nat) (ops : Array Oper) (o : Oper) (kn : Kn) (e : Env) (H : Heap) (nx : Nat) (K : Kn → St → Prop) : execE c tt N ops o kn e H nx (fun kn e H nx => K kn ⟨e, H, nx⟩) = execT c tt N ops o kn ⟨e, H, nx⟩ K := by
  have hr : ∀ (kn : Kn) (e : Env) (r : Res), (match r with
          | .val v => putE e o.dst v fun e => K kn ⟨e, H, nx⟩
          | .new b v => putE e o.dst v fun e => forceH (H.set nx (some b)) fun H => K kn ⟨e, H, nx + 1⟩
          | .upd h v => putE e o.dst v fun e => forceH h fun H => K kn ⟨e, H, nx + 1⟩) = K kn ⟨e.put o.dst r.v, r.heap H nx, r.next nx⟩ := by
    intro kn e r
    cases r <;> simp only [putE_eq, forceH_eq] <;> rfl
  unfold execE execT
  simp only [hr]
  simp only [putE_eq, forceH_eq, forceL_eq]
  rfl
def seqE (c : CallT) (tt : TT) (N : Nat) (ops : Array Oper) : List Oper → Kn → Env → Heap → Nat → (Env → Heap → Nat → Prop) → Prop
  | [], _, e, H, nx, K => K e H nx
  | o :: l, kn, e, H, nx, K => execE c tt N ops o kn e H nx fun kn e H nx => seqE c tt N ops l kn e H nx K
theorem seqE_eq (c : CallT) (tt : TT) (N : Nat) (ops : Array Oper) : ∀ (l : List Oper) (kn : Kn) (e : Env) (H : Heap) (nx : Nat) (K : St → Prop), seqE c tt N ops l kn e H nx (fun e H nx => K ⟨e, H, nx⟩) = seqT c tt N ops l kn ⟨e, H, nx⟩ K
  | [], kn, e, H, nx, K => rfl
  | o :: l, kn, e, H, nx, K => by
    have ih := seqE_eq c tt N ops l
    simp only [seqE, seqT]
    rw [← execE_eq]
    simp only [ih]

def calmE (c : CallT) (tt : TT) (N : Nat) (ops : Array Oper) (ms : List Nat) (H0 : Heap) (nx : Nat) : List Oper → Nat → Kn → Env → Heap → List (Nat × List (Nat × Blk)) → (Env → Heap → Prop) → Prop
  | [], _, _, e, h, _, K => K e h
  | o :: l, i, kn, e, h, sp, K =>
    bif dstOk N o.dst then
      guardT ops o kn e
        (fun kn e => match asCall o.op with
          | some (fo, args) => match evE e fo with
            | .func fid caps => forceL (args.toList.map (evE e) ++ caps) fun as => c fid as (roAll (visS H0 (ms.getD i 0) sp)) (nx + i * RR) fun v H' nx' =>
              bif Nat.ble nx' (nx + i * RR + RR) then
                (match newsOf (nx + i * RR) H' H' with
                | [] => putE e o.dst v fun e => calmE c tt N ops ms H0 nx l (i + 1) kn e h sp K
                | x :: y => putE e o.dst v fun e => forceH (addNews h (x :: y)) fun h => calmE c tt N ops ms H0 nx l (i + 1) kn e h (sp ++ [(i, x :: y)]) K)
              else False
            | _ => False
          | none => opT tt (evE e) (roAll (visS H0 (ms.getD i 0) sp)) (nx + i * RR) o.op fun r =>
            match r with
            | .val v => putE e o.dst v fun e => calmE c tt N ops ms H0 nx l (i + 1) kn e h sp K
            | .new b v => bif b.ro then False else putE e o.dst v fun e => forceH (addNews h [(nx + i * RR, b)]) fun h => calmE c tt N ops ms H0 nx l (i + 1) kn e h (sp ++ [(i, [(nx + i * RR, b)])]) K
            | .upd _ _ => False)
        (fun kn e => putE e o.dst undefA fun e => calmE c tt N ops ms H0 nx l (i + 1) kn e h sp K)
    else False
theorem calmE_eq (c : CallT) (tt : TT) (N : Nat) (ops : Array Oper) (ms : List Nat) (s : St) : ∀ (l : List Oper) (i : Nat) (kn : Kn) (e : Env) (h : Heap) (sp : List (Nat × List (Nat × Blk))) (K : Env → Heap → Prop), calmE c tt N ops ms s.heap s.nx l i kn e h sp K = calmT c tt N ops ms s l i kn e h sp K
  | [], i, kn, e, h, sp, K => rfl
  | o :: l, i, kn, e, h, sp, K => by
    have ih := calmE_eq c tt N ops ms s l
    unfold calmE calmT
    have hr : ∀ (kn : Kn) (e : Env) (r : Res), (match r with
            | .val v => putE e o.dst v fun e => calmE c tt N ops ms s.heap s.nx l (i + 1) kn e h sp K
            | .new b v => bif b.ro then False else putE e o.dst v fun e => forceH (addNews h [(s.nx + i * RR, b)]) fun h => calmE c tt N ops ms s.heap s.nx l (i + 1) kn e h (sp ++ [(i, [(s.nx + i * RR, b)])]) K
            | .upd _ _ => False) = (bif r.calm then
              (match r.news (s.nx + i * RR) with
              | [] => calmT c tt N ops ms s l (i + 1) kn (e.put o.dst r.v) h sp K
              | x :: y => calmT c tt N ops ms s l (i + 1) kn (e.put o.dst r.v) (addNews h (x :: y)) (sp ++ [(i, x :: y)]) K)
            else False) := by
      intro kn e r
      cases r with
      | val v => simp only [putE_eq, forceH_eq, ih]; rfl
      | new b v => simp only [putE_eq, forceH_eq, ih, Res.calm, Res.news, Res.v]; cases b.ro <;> rfl
      | upd h v => rfl
    simp only [hr]
    simp only [putE_eq, forceL_eq, forceH_eq, ih]
    rfl
def regE (c ci : CallT) (tt : TT) (N : Nat) (ops : Array Oper) (draw : Bool) (pl : Pl) (e : Env) (H : Heap) (nx : Nat) (K : Env → Heap → Nat → Prop) : Prop :=
  match draw with
  | true => match pl with
    | some (ms, n) => PlanIs ops ms n ∧ calmE c tt N ops ms H nx (ops.toList.take n) 0 [] e H [] fun e h => seqE c tt N ops (ops.toList.drop n) [] e h (nx + n * RR) K
    | none => False
  | false => seqE ci tt N ops ops.toList [] e H nx K
theorem regE_eq (c ci : CallT) (tt : TT) (N : Nat) (ops : Array Oper) (draw : Bool) (pl : Pl) (e : Env) (H : Heap) (nx : Nat) (K : St → Prop) : regE c ci tt N ops draw pl e H nx (fun e H nx => K ⟨e, H, nx⟩) = regT c ci tt N ops draw pl ⟨e, H, nx⟩ K := by
  unfold regE regT
  simp only [seqE_eq]
  cases draw with
  | false => rfl
  | true =>
    cases pl with
    | none => rfl
    | some q =>
      obtain ⟨ms, n⟩ := q
      simp only
      rw [← calmE_eq c tt N ops ms ⟨e, H, nx⟩]

/-- The slots that are read later, alone. -/
def pruneE : List Nat → Env → (Env → Prop) → Prop
  | [], _, K => K []
  | k :: l, e, K => forceV (e.get k) fun v => pruneE l e fun r => match v with
    | .any => K r
    | v => K ((k, v) :: r)
theorem pruneE_sound : ∀ (l : List Nat) (e : Env) (K : Env → Prop), pruneE l e K → ∃ e', EnvEq (prune l e) e' ∧ K e'
  | [], e, K, h => ⟨[], .refl _, h⟩
  | k :: l, e, K, h => by
    simp only [pruneE, forceV_eq] at h
    obtain ⟨r, h1, h2⟩ := pruneE_sound l e _ h
    have key : EnvEq (prune (k :: l) e) ((k, e.get k) :: r) := by
      intro j
      show Env.get ((k, e.get k) :: prune l e) j = _
      rw [Env.get_cons, Env.get_cons, h1 j]
    split at h2
    · rename_i hv
      refine ⟨r, fun j => ?_, h2⟩
      rw [key j, Env.get_cons]
      by_cases hj : j = k
      · subst hj
        rw [Nat.beq_refl, hv]
        show AVal.any = _
        have := h1 j
        by_cases hin : l.contains j = true
        · rw [← this, prune_get', if_pos hin, hv]
        · rw [← this, prune_get', if_neg hin]
      · rw [beq_ff hj]; rfl
    · exact ⟨_, key, h2⟩
where
  prune_get' (e : Env) : ∀ (keep : List Nat) (k : Nat), (prune keep e).get k = if keep.contains k then e.get k else .any
  | [], k => by simp [prune, Env.get_nil]
  | x :: l, k => by
    have ih := prune_get' e l k
    unfold prune at ih ⊢
    simp only [List.map_cons, Env.get_cons]
    by_cases h : k = x
    · subst h; simp [Nat.beq_refl]
    · rw [beq_ff h]
      simp only [cond_false]
      rw [ih]
      simp [h]

end Go.Av
