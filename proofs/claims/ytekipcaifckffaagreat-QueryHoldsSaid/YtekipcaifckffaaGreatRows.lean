/-
  No cell of these rows narrows 'for every input' (looked for: loops, veiled, ifaces, maps, wideKeys, modest, calm, conditions, laid).
  DERIVED. THE GIVEN ROWS OF THIS SEAT. 2 by the template 'for every input the law returns true; each argument reads behind the call as it read before'; 0 by the template 'total and deterministic' (their statements: YtekipcaifckffaaGreatTotals.lean).
  GIVEN WITH THE SEED: the statements are not yours to turn. If you find one false, say at which input.
  Laid BY PROGRAM, IN A SANDBOX (cutbox-rows.mjs): the forced cells as the released guide's own fill.sh prints them over the translation 18dc800a18fb7468… (all of the seat's roots in one cut). By AI agents, Wed Nov 11 2026. No macro, syntax, notation, axiom, sorry.
-/
import Derived.Test.YtekipcaifckffaaGreatChecked
import GoSem.Claim
import GoSem.ClaimJoined
import GoSem.ClaimMapViews
import Derived.JoinedTies
import Derived.KernelRfl
namespace Go.Proofs.YtekipcaifckffaaGreat
/- THE CELL 'sum', in the pinned program and in every row, IS THE sha256 OF THE DUMP (.gsa) THAT YtekipcaifckffaaGreatProg.lean LOADS. Nothing in Lean hashes anything: it is a label: what it is worth is what the hold of that sum in a sandbox is worth. -/
noncomputable def Tryz.pinned : Pinned := { name := "ytekipcaifckffaagreat", sum := "18dc800a18fb74689ff3df3651c6e141a553b04e4e02b5d13d514354e6d7c750", checked := Tryz.checked }
namespace Rows
def none {H : Type} : Left H := { results := [], args := [] }

/-- 'shredderlaw21.QueryHolds': WHATEVER THE INPUT: true; the input reads as it did. -/
def queryHoldsSpec : ChangeSpec := { name := "queryHolds", fn := fun _ => fun
  | [d1, d2, d3, d4] => { results := [.lit (.bool true)], args := [d1, d2, d3, d4] }
  | _ => none }
def queryHoldsRow : OpenClaim := { program := "ytekipcaifckffaagreat", sum := "18dc800a18fb74689ff3df3651c6e141a553b04e4e02b5d13d514354e6d7c750", func := "shredder/shredderlaw21.QueryHolds", spec := "queryHolds", unfollowed := true, recurses := true, apart := false }
def QueryHoldsSaid : Prop := queryHoldsRow.holds Tryz.pinned (OpenSpec.ofChange queryHoldsSpec)

/-- ITS FALSE NEIGHBOUR: 'it returns false'. Refute it at one input. -/
def queryHoldsWrong : ChangeSpec := { name := "queryHolds", fn := fun _ => fun
  | [d1, d2, d3, d4] => { results := [.lit (.bool false)], args := [d1, d2, d3, d4] }
  | _ => none }
def QueryHoldsWrongFalsely : Prop := queryHoldsRow.holds Tryz.pinned (OpenSpec.ofChange queryHoldsWrong)

/-- 'shredderlaw21.QueryBoth': WHATEVER THE INPUT: true; the input reads as it did. -/
def queryBothSpec : ChangeSpec := { name := "queryBoth", fn := fun _ => fun
  | [d1, d2, d3, d4] => { results := [.lit (.bool true)], args := [d1, d2, d3, d4] }
  | _ => none }
def queryBothRow : OpenClaim := { program := "ytekipcaifckffaagreat", sum := "18dc800a18fb74689ff3df3651c6e141a553b04e4e02b5d13d514354e6d7c750", func := "shredder/shredderlaw21.QueryBoth", spec := "queryBoth", unfollowed := true, recurses := true, apart := false }
def QueryBothSaid : Prop := queryBothRow.holds Tryz.pinned (OpenSpec.ofChange queryBothSpec)

/-- ITS FALSE NEIGHBOUR: 'it returns false'. Refute it at one input. -/
def queryBothWrong : ChangeSpec := { name := "queryBoth", fn := fun _ => fun
  | [d1, d2, d3, d4] => { results := [.lit (.bool false)], args := [d1, d2, d3, d4] }
  | _ => none }
def QueryBothWrongFalsely : Prop := queryBothRow.holds Tryz.pinned (OpenSpec.ofChange queryBothWrong)

/- THE SECOND FORM. 'bulk': how many values and letters a reading holds, each counted each time it is reached (what is shared counts as often as it is met; a slice's spare places count too). A statement '..UptoSaid' is the law's where the arguments, and the package variables that the reading takes, are together of bulk at most 1048576: NARROWER than '..Said'. Prove '..Said' where nothing that the law and all that it calls make is longer than what came in: it says more and counts as full. Else prove '..UptoSaid'. A law counts once. -/
mutual
def uptoBulk {H : Type} : DataW H → Nat
  | .lit (.string bytes) => bytes.length + 1
  | .lit _ => 1
  | .nil => 1
  | .ptr d => uptoBulk d + 1
  | .slice elems spare => uptoBulkAll elems + uptoBulkAll spare + 1
  | .agg parts => uptoBulkAll parts + 1
  | .iface _ d => uptoBulk d + 1
  | .map entries => uptoBulkEntries entries + 1
  | .held _ => 1
def uptoBulkAll {H : Type} : List (DataW H) → Nat
  | [] => 0
  | d :: r => uptoBulk d + uptoBulkAll r
def uptoBulkEntries {H : Type} : List (Lit × DataW H) → Nat
  | [] => 0
  | x :: r => uptoBulkEntry x + uptoBulkEntries r
def uptoBulkEntry {H : Type} : Lit × DataW H → Nat
  | (.string bytes, d) => bytes.length + uptoBulk d + 1
  | (_, d) => uptoBulk d + 1
 end
def uptoSmall : (H : Type) → List (DataW H) → Bool := fun _ ds => decide (uptoBulkAll ds ≤ 1048576)
def OpenSpec.upto (s : _root_.Go.ChangeSpec) : _root_.Go.OpenSpec := { _root_.Go.OpenSpec.ofChange s with cond := some uptoSmall }

/-- 'shredderlaw21.QueryHolds', WHERE WHAT IT READS IS OF BULK AT MOST 1048576: true; the input reads as it did. -/
def queryHoldsUptoRow : OpenClaim := { program := "ytekipcaifckffaagreat", sum := "18dc800a18fb74689ff3df3651c6e141a553b04e4e02b5d13d514354e6d7c750", func := "shredder/shredderlaw21.QueryHolds", spec := "queryHolds", unfollowed := true, recurses := true, apart := false, narrowed := true }
def QueryHoldsUptoSaid : Prop := queryHoldsUptoRow.holds Tryz.pinned (OpenSpec.upto queryHoldsSpec)

/-- 'shredderlaw21.QueryBoth', WHERE WHAT IT READS IS OF BULK AT MOST 1048576: true; the input reads as it did. -/
def queryBothUptoRow : OpenClaim := { program := "ytekipcaifckffaagreat", sum := "18dc800a18fb74689ff3df3651c6e141a553b04e4e02b5d13d514354e6d7c750", func := "shredder/shredderlaw21.QueryBoth", spec := "queryBoth", unfollowed := true, recurses := true, apart := false, narrowed := true }
def QueryBothUptoSaid : Prop := queryBothUptoRow.holds Tryz.pinned (OpenSpec.upto queryBothSpec)

end Rows
end Go.Proofs.YtekipcaifckffaaGreat
