/-
  No cell of these rows narrows 'for every input' (looked for: loops, veiled, ifaces, maps, wideKeys, modest, calm, conditions, laid).
  DERIVED. THE GIVEN ROWS OF THIS SEAT. 7 by the template 'for every input the law returns true; each argument reads behind the call as it read before'; 0 by the template 'total and deterministic' (their statements: YtcpikannlnmafaaTotals.lean).
  GIVEN WITH THE SEED: the statements are not yours to turn. If you find one false, say at which input.
  Laid BY PROGRAM, IN A SANDBOX (cutbox-rows.mjs): the forced cells as the released guide's own fill.sh prints them over the translation fe736aa82c50700d… (all of the seat's roots in one cut). By AI agents, Wed Nov 11 2026. No macro, syntax, notation, axiom, sorry.
-/
import Derived.Test.YtcpikannlnmafaaChecked
import GoSem.Claim
import GoSem.ClaimJoined
import GoSem.ClaimMapViews
import Derived.JoinedTies
import Derived.KernelRfl
namespace Go.Proofs.Ytcpikannlnmafaa
/- THE CELL 'sum', in the pinned program and in every row, IS THE sha256 OF THE DUMP (.gsa) THAT YtcpikannlnmafaaProg.lean LOADS. Nothing in Lean hashes anything: it is a label: what it is worth is what the hold of that sum in a sandbox is worth. -/
noncomputable def Try.pinned : Pinned := { name := "ytcpikannlnmafaa", sum := "fe736aa82c50700d5435b9aba81cebf115f698f3ebaf31bea9202a34d551492f", checked := Try.checked }
namespace Rows
def none {H : Type} : Left H := { results := [], args := [] }

/-- 'shredderlaw5.SchemaRows': WHATEVER THE INPUT: true; the input reads as it did. -/
def schemaRowsSpec : ChangeSpec := { name := "schemaRows", fn := fun _ => fun
  | [d1, d2] => { results := [.lit (.bool true)], args := [d1, d2] }
  | _ => none }
def schemaRowsRow : OpenClaim := { program := "ytcpikannlnmafaa", sum := "fe736aa82c50700d5435b9aba81cebf115f698f3ebaf31bea9202a34d551492f", func := "shredder/shredderlaw5.SchemaRows", spec := "schemaRows", unfollowed := true, recurses := true, apart := false }
def SchemaRowsSaid : Prop := schemaRowsRow.holds Try.pinned (OpenSpec.ofChange schemaRowsSpec)

/-- ITS FALSE NEIGHBOUR: 'it returns false'. Refute it at one input. -/
def schemaRowsWrong : ChangeSpec := { name := "schemaRows", fn := fun _ => fun
  | [d1, d2] => { results := [.lit (.bool false)], args := [d1, d2] }
  | _ => none }
def SchemaRowsWrongFalsely : Prop := schemaRowsRow.holds Try.pinned (OpenSpec.ofChange schemaRowsWrong)

/-- 'shredderlaw5.SchemaPaths': WHATEVER THE INPUT: true; the input reads as it did. -/
def schemaPathsSpec : ChangeSpec := { name := "schemaPaths", fn := fun _ => fun
  | [d] => { results := [.lit (.bool true)], args := [d] }
  | _ => none }
def schemaPathsRow : OpenClaim := { program := "ytcpikannlnmafaa", sum := "fe736aa82c50700d5435b9aba81cebf115f698f3ebaf31bea9202a34d551492f", func := "shredder/shredderlaw5.SchemaPaths", spec := "schemaPaths", unfollowed := true, recurses := true, apart := false }
def SchemaPathsSaid : Prop := schemaPathsRow.holds Try.pinned (OpenSpec.ofChange schemaPathsSpec)

/-- ITS FALSE NEIGHBOUR: 'it returns false'. Refute it at one input. -/
def schemaPathsWrong : ChangeSpec := { name := "schemaPaths", fn := fun _ => fun
  | [d] => { results := [.lit (.bool false)], args := [d] }
  | _ => none }
def SchemaPathsWrongFalsely : Prop := schemaPathsRow.holds Try.pinned (OpenSpec.ofChange schemaPathsWrong)

/-- 'shredderlaw5.SchemaLevels': WHATEVER THE INPUT: true; the input reads as it did. -/
def schemaLevelsSpec : ChangeSpec := { name := "schemaLevels", fn := fun _ => fun
  | [d] => { results := [.lit (.bool true)], args := [d] }
  | _ => none }
def schemaLevelsRow : OpenClaim := { program := "ytcpikannlnmafaa", sum := "fe736aa82c50700d5435b9aba81cebf115f698f3ebaf31bea9202a34d551492f", func := "shredder/shredderlaw5.SchemaLevels", spec := "schemaLevels", unfollowed := true, recurses := true, apart := false }
def SchemaLevelsSaid : Prop := schemaLevelsRow.holds Try.pinned (OpenSpec.ofChange schemaLevelsSpec)

/-- ITS FALSE NEIGHBOUR: 'it returns false'. Refute it at one input. -/
def schemaLevelsWrong : ChangeSpec := { name := "schemaLevels", fn := fun _ => fun
  | [d] => { results := [.lit (.bool false)], args := [d] }
  | _ => none }
def SchemaLevelsWrongFalsely : Prop := schemaLevelsRow.holds Try.pinned (OpenSpec.ofChange schemaLevelsWrong)

/-- 'shredderlaw5.SchemaDeep': WHATEVER THE INPUT: true; the input reads as it did. -/
def schemaDeepSpec : ChangeSpec := { name := "schemaDeep", fn := fun _ => fun
  | [d1, d2] => { results := [.lit (.bool true)], args := [d1, d2] }
  | _ => none }
def schemaDeepRow : OpenClaim := { program := "ytcpikannlnmafaa", sum := "fe736aa82c50700d5435b9aba81cebf115f698f3ebaf31bea9202a34d551492f", func := "shredder/shredderlaw5.SchemaDeep", spec := "schemaDeep", unfollowed := true, recurses := true, apart := false }
def SchemaDeepSaid : Prop := schemaDeepRow.holds Try.pinned (OpenSpec.ofChange schemaDeepSpec)

/-- ITS FALSE NEIGHBOUR: 'it returns false'. Refute it at one input. -/
def schemaDeepWrong : ChangeSpec := { name := "schemaDeep", fn := fun _ => fun
  | [d1, d2] => { results := [.lit (.bool false)], args := [d1, d2] }
  | _ => none }
def SchemaDeepWrongFalsely : Prop := schemaDeepRow.holds Try.pinned (OpenSpec.ofChange schemaDeepWrong)

/-- 'shredderlaw5.SchemaTells': WHATEVER THE INPUT: true; the input reads as it did. -/
def schemaTellsSpec : ChangeSpec := { name := "schemaTells", fn := fun _ => fun
  | [d1, d2] => { results := [.lit (.bool true)], args := [d1, d2] }
  | _ => none }
def schemaTellsRow : OpenClaim := { program := "ytcpikannlnmafaa", sum := "fe736aa82c50700d5435b9aba81cebf115f698f3ebaf31bea9202a34d551492f", func := "shredder/shredderlaw5.SchemaTells", spec := "schemaTells", unfollowed := true, recurses := true, apart := false }
def SchemaTellsSaid : Prop := schemaTellsRow.holds Try.pinned (OpenSpec.ofChange schemaTellsSpec)

/-- ITS FALSE NEIGHBOUR: 'it returns false'. Refute it at one input. -/
def schemaTellsWrong : ChangeSpec := { name := "schemaTells", fn := fun _ => fun
  | [d1, d2] => { results := [.lit (.bool false)], args := [d1, d2] }
  | _ => none }
def SchemaTellsWrongFalsely : Prop := schemaTellsRow.holds Try.pinned (OpenSpec.ofChange schemaTellsWrong)

/-- 'shredderlaw15.FsmAll': WHATEVER THE INPUT: true; the input reads as it did. -/
def fsmAllSpec : ChangeSpec := { name := "fsmAll", fn := fun _ => fun
  | [d1, d2, d3] => { results := [.lit (.bool true)], args := [d1, d2, d3] }
  | _ => none }
def fsmAllRow : OpenClaim := { program := "ytcpikannlnmafaa", sum := "fe736aa82c50700d5435b9aba81cebf115f698f3ebaf31bea9202a34d551492f", func := "shredder/shredderlaw15.FsmAll", spec := "fsmAll", unfollowed := true, recurses := true, apart := false }
def FsmAllSaid : Prop := fsmAllRow.holds Try.pinned (OpenSpec.ofChange fsmAllSpec)

/-- ITS FALSE NEIGHBOUR: 'it returns false'. Refute it at one input. -/
def fsmAllWrong : ChangeSpec := { name := "fsmAll", fn := fun _ => fun
  | [d1, d2, d3] => { results := [.lit (.bool false)], args := [d1, d2, d3] }
  | _ => none }
def FsmAllWrongFalsely : Prop := fsmAllRow.holds Try.pinned (OpenSpec.ofChange fsmAllWrong)

/-- 'shredderlaw15.FsmWalks': WHATEVER THE INPUT: true; the input reads as it did. -/
def fsmWalksSpec : ChangeSpec := { name := "fsmWalks", fn := fun _ => fun
  | [d1, d2] => { results := [.lit (.bool true)], args := [d1, d2] }
  | _ => none }
def fsmWalksRow : OpenClaim := { program := "ytcpikannlnmafaa", sum := "fe736aa82c50700d5435b9aba81cebf115f698f3ebaf31bea9202a34d551492f", func := "shredder/shredderlaw15.FsmWalks", spec := "fsmWalks", unfollowed := true, recurses := true, apart := false }
def FsmWalksSaid : Prop := fsmWalksRow.holds Try.pinned (OpenSpec.ofChange fsmWalksSpec)

/-- ITS FALSE NEIGHBOUR: 'it returns false'. Refute it at one input. -/
def fsmWalksWrong : ChangeSpec := { name := "fsmWalks", fn := fun _ => fun
  | [d1, d2] => { results := [.lit (.bool false)], args := [d1, d2] }
  | _ => none }
def FsmWalksWrongFalsely : Prop := fsmWalksRow.holds Try.pinned (OpenSpec.ofChange fsmWalksWrong)

/- THE SECOND FORM. 'bulk': how many values and letters a reading holds, each counted each time it is reached (what is shared counts as often as it is met; a slice's spare places count too). A statement '..UptoSaid' is the law's where the arguments, and the package variables that the reading takes, are together of bulk at most 1048576: NARROWER than '..Said'. Prove '..Said' where nothing that the law and all that it calls make is longer than what came in: it says more and counts as full. Else prove '..UptoSaid'. A law counts once. -/
mutual
def uptoBulk {H : Type} : DataW H → Nat
  | .lit (.string bytes) => bytes.length + 1
  | .lit _ => 1
  | .nil => 1
  | .ptr d => uptoBulk d + 1
  | .slice elems spare => uptoBulkAll elems + uptoBulkAll spare + 1
  | .agg parts => uptoBulkAll parts + 1
  | .iface _ d => uptoBulk d + 1
  | .map entries => uptoBulkEntries entries + 1
  | .held _ => 1
def uptoBulkAll {H : Type} : List (DataW H) → Nat
  | [] => 0
  | d :: r => uptoBulk d + uptoBulkAll r
def uptoBulkEntries {H : Type} : List (Lit × DataW H) → Nat
  | [] => 0
  | x :: r => uptoBulkEntry x + uptoBulkEntries r
def uptoBulkEntry {H : Type} : Lit × DataW H → Nat
  | (.string bytes, d) => bytes.length + uptoBulk d + 1
  | (_, d) => uptoBulk d + 1
 end
def uptoSmall : (H : Type) → List (DataW H) → Bool := fun _ ds => decide (uptoBulkAll ds ≤ 1048576)
def OpenSpec.upto (s : _root_.Go.ChangeSpec) : _root_.Go.OpenSpec := { _root_.Go.OpenSpec.ofChange s with cond := some uptoSmall }

/-- 'shredderlaw5.SchemaRows', WHERE WHAT IT READS IS OF BULK AT MOST 1048576: true; the input reads as it did. -/
def schemaRowsUptoRow : OpenClaim := { program := "ytcpikannlnmafaa", sum := "fe736aa82c50700d5435b9aba81cebf115f698f3ebaf31bea9202a34d551492f", func := "shredder/shredderlaw5.SchemaRows", spec := "schemaRows", unfollowed := true, recurses := true, apart := false, narrowed := true }
def SchemaRowsUptoSaid : Prop := schemaRowsUptoRow.holds Try.pinned (OpenSpec.upto schemaRowsSpec)

/-- 'shredderlaw5.SchemaPaths', WHERE WHAT IT READS IS OF BULK AT MOST 1048576: true; the input reads as it did. -/
def schemaPathsUptoRow : OpenClaim := { program := "ytcpikannlnmafaa", sum := "fe736aa82c50700d5435b9aba81cebf115f698f3ebaf31bea9202a34d551492f", func := "shredder/shredderlaw5.SchemaPaths", spec := "schemaPaths", unfollowed := true, recurses := true, apart := false, narrowed := true }
def SchemaPathsUptoSaid : Prop := schemaPathsUptoRow.holds Try.pinned (OpenSpec.upto schemaPathsSpec)

/-- 'shredderlaw5.SchemaLevels', WHERE WHAT IT READS IS OF BULK AT MOST 1048576: true; the input reads as it did. -/
def schemaLevelsUptoRow : OpenClaim := { program := "ytcpikannlnmafaa", sum := "fe736aa82c50700d5435b9aba81cebf115f698f3ebaf31bea9202a34d551492f", func := "shredder/shredderlaw5.SchemaLevels", spec := "schemaLevels", unfollowed := true, recurses := true, apart := false, narrowed := true }
def SchemaLevelsUptoSaid : Prop := schemaLevelsUptoRow.holds Try.pinned (OpenSpec.upto schemaLevelsSpec)

/-- 'shredderlaw5.SchemaDeep', WHERE WHAT IT READS IS OF BULK AT MOST 1048576: true; the input reads as it did. -/
def schemaDeepUptoRow : OpenClaim := { program := "ytcpikannlnmafaa", sum := "fe736aa82c50700d5435b9aba81cebf115f698f3ebaf31bea9202a34d551492f", func := "shredder/shredderlaw5.SchemaDeep", spec := "schemaDeep", unfollowed := true, recurses := true, apart := false, narrowed := true }
def SchemaDeepUptoSaid : Prop := schemaDeepUptoRow.holds Try.pinned (OpenSpec.upto schemaDeepSpec)

/-- 'shredderlaw5.SchemaTells', WHERE WHAT IT READS IS OF BULK AT MOST 1048576: true; the input reads as it did. -/
def schemaTellsUptoRow : OpenClaim := { program := "ytcpikannlnmafaa", sum := "fe736aa82c50700d5435b9aba81cebf115f698f3ebaf31bea9202a34d551492f", func := "shredder/shredderlaw5.SchemaTells", spec := "schemaTells", unfollowed := true, recurses := true, apart := false, narrowed := true }
def SchemaTellsUptoSaid : Prop := schemaTellsUptoRow.holds Try.pinned (OpenSpec.upto schemaTellsSpec)

/-- 'shredderlaw15.FsmAll', WHERE WHAT IT READS IS OF BULK AT MOST 1048576: true; the input reads as it did. -/
def fsmAllUptoRow : OpenClaim := { program := "ytcpikannlnmafaa", sum := "fe736aa82c50700d5435b9aba81cebf115f698f3ebaf31bea9202a34d551492f", func := "shredder/shredderlaw15.FsmAll", spec := "fsmAll", unfollowed := true, recurses := true, apart := false, narrowed := true }
def FsmAllUptoSaid : Prop := fsmAllUptoRow.holds Try.pinned (OpenSpec.upto fsmAllSpec)

/-- 'shredderlaw15.FsmWalks', WHERE WHAT IT READS IS OF BULK AT MOST 1048576: true; the input reads as it did. -/
def fsmWalksUptoRow : OpenClaim := { program := "ytcpikannlnmafaa", sum := "fe736aa82c50700d5435b9aba81cebf115f698f3ebaf31bea9202a34d551492f", func := "shredder/shredderlaw15.FsmWalks", spec := "fsmWalks", unfollowed := true, recurses := true, apart := false, narrowed := true }
def FsmWalksUptoSaid : Prop := fsmWalksUptoRow.holds Try.pinned (OpenSpec.upto fsmWalksSpec)

end Rows
end Go.Proofs.Ytcpikannlnmafaa
