/-
  No cell of these rows narrows 'for every input' (looked for: loops, veiled, ifaces, maps, wideKeys, modest, calm, conditions, laid).
  DERIVED. THE GIVEN ROWS OF THIS SEAT. 7 by the template 'for every input the law returns true; each argument reads behind the call as it read before'; 0 by the template 'total and deterministic' (their statements: YtajieadpaeggcaaTotals.lean).
  GIVEN WITH THE SEED: the statements are not yours to turn. If you find one false, say at which input.
  Laid BY PROGRAM, IN A SANDBOX (cutbox-rows.mjs): the forced cells as the released guide's own fill.sh prints them over the translation 0570404001d01b79… (all of the seat's roots in one cut). By AI agents, Wed Nov 11 2026. No macro, syntax, notation, axiom, sorry.
-/
import Derived.Test.YtajieadpaeggcaaChecked
import GoSem.Claim
import GoSem.ClaimJoined
import GoSem.ClaimMapViews
import Derived.JoinedTies
import Derived.KernelRfl
namespace Go.Proofs.Ytajieadpaeggcaa
/- THE CELL 'sum', in the pinned program and in every row, IS THE sha256 OF THE DUMP (.gsa) THAT YtajieadpaeggcaaProg.lean LOADS. Nothing in Lean hashes anything: it is a label: what it is worth is what the hold of that sum in a sandbox is worth. -/
noncomputable def Try.pinned : Pinned := { name := "ytajieadpaeggcaa", sum := "0570404001d01b79e6890d4386461534cdf33a1e6d8671c9e62305942074ce79", checked := Try.checked }
namespace Rows
def none {H : Type} : Left H := { results := [], args := [] }

/-- 'shredderlaw19.FooterReads': WHATEVER THE INPUT: true; the input reads as it did. -/
def footerReadsSpec : ChangeSpec := { name := "footerReads", fn := fun _ => fun
  | [d1, d2, d3, d4, d5, d6, d7, d8, d9] => { results := [.lit (.bool true)], args := [d1, d2, d3, d4, d5, d6, d7, d8, d9] }
  | _ => none }
def footerReadsRow : OpenClaim := { program := "ytajieadpaeggcaa", sum := "0570404001d01b79e6890d4386461534cdf33a1e6d8671c9e62305942074ce79", func := "shredder/shredderlaw19.FooterReads", spec := "footerReads", unfollowed := true, recurses := true, apart := false }
def FooterReadsSaid : Prop := footerReadsRow.holds Try.pinned (OpenSpec.ofChange footerReadsSpec)

/-- ITS FALSE NEIGHBOUR: 'it returns false'. Refute it at one input. -/
def footerReadsWrong : ChangeSpec := { name := "footerReads", fn := fun _ => fun
  | [d1, d2, d3, d4, d5, d6, d7, d8, d9] => { results := [.lit (.bool false)], args := [d1, d2, d3, d4, d5, d6, d7, d8, d9] }
  | _ => none }
def FooterReadsWrongFalsely : Prop := footerReadsRow.holds Try.pinned (OpenSpec.ofChange footerReadsWrong)

/-- 'shredderlaw19.FooterCounts': WHATEVER THE INPUT: true; the input reads as it did. -/
def footerCountsSpec : ChangeSpec := { name := "footerCounts", fn := fun _ => fun
  | [d1, d2, d3, d4, d5] => { results := [.lit (.bool true)], args := [d1, d2, d3, d4, d5] }
  | _ => none }
def footerCountsRow : OpenClaim := { program := "ytajieadpaeggcaa", sum := "0570404001d01b79e6890d4386461534cdf33a1e6d8671c9e62305942074ce79", func := "shredder/shredderlaw19.FooterCounts", spec := "footerCounts", unfollowed := true, recurses := true, apart := false }
def FooterCountsSaid : Prop := footerCountsRow.holds Try.pinned (OpenSpec.ofChange footerCountsSpec)

/-- ITS FALSE NEIGHBOUR: 'it returns false'. Refute it at one input. -/
def footerCountsWrong : ChangeSpec := { name := "footerCounts", fn := fun _ => fun
  | [d1, d2, d3, d4, d5] => { results := [.lit (.bool false)], args := [d1, d2, d3, d4, d5] }
  | _ => none }
def FooterCountsWrongFalsely : Prop := footerCountsRow.holds Try.pinned (OpenSpec.ofChange footerCountsWrong)

/-- 'shredderlaw19.FooterSames': WHATEVER THE INPUT: true; the input reads as it did. -/
def footerSamesSpec : ChangeSpec := { name := "footerSames", fn := fun _ => fun
  | [d1, d2, d3, d4, d5] => { results := [.lit (.bool true)], args := [d1, d2, d3, d4, d5] }
  | _ => none }
def footerSamesRow : OpenClaim := { program := "ytajieadpaeggcaa", sum := "0570404001d01b79e6890d4386461534cdf33a1e6d8671c9e62305942074ce79", func := "shredder/shredderlaw19.FooterSames", spec := "footerSames", unfollowed := true, recurses := true, apart := false }
def FooterSamesSaid : Prop := footerSamesRow.holds Try.pinned (OpenSpec.ofChange footerSamesSpec)

/-- ITS FALSE NEIGHBOUR: 'it returns false'. Refute it at one input. -/
def footerSamesWrong : ChangeSpec := { name := "footerSames", fn := fun _ => fun
  | [d1, d2, d3, d4, d5] => { results := [.lit (.bool false)], args := [d1, d2, d3, d4, d5] }
  | _ => none }
def FooterSamesWrongFalsely : Prop := footerSamesRow.holds Try.pinned (OpenSpec.ofChange footerSamesWrong)

/-- 'shredderlaw19.FooterFronts': WHATEVER THE INPUT: true; the input reads as it did. -/
def footerFrontsSpec : ChangeSpec := { name := "footerFronts", fn := fun _ => fun
  | [d1, d2, d3, d4, d5] => { results := [.lit (.bool true)], args := [d1, d2, d3, d4, d5] }
  | _ => none }
def footerFrontsRow : OpenClaim := { program := "ytajieadpaeggcaa", sum := "0570404001d01b79e6890d4386461534cdf33a1e6d8671c9e62305942074ce79", func := "shredder/shredderlaw19.FooterFronts", spec := "footerFronts", unfollowed := true, recurses := true, apart := false }
def FooterFrontsSaid : Prop := footerFrontsRow.holds Try.pinned (OpenSpec.ofChange footerFrontsSpec)

/-- ITS FALSE NEIGHBOUR: 'it returns false'. Refute it at one input. -/
def footerFrontsWrong : ChangeSpec := { name := "footerFronts", fn := fun _ => fun
  | [d1, d2, d3, d4, d5] => { results := [.lit (.bool false)], args := [d1, d2, d3, d4, d5] }
  | _ => none }
def FooterFrontsWrongFalsely : Prop := footerFrontsRow.holds Try.pinned (OpenSpec.ofChange footerFrontsWrong)

/-- 'shredderlaw19.FooterBack': WHATEVER THE INPUT: true; the input reads as it did. -/
def footerBackSpec : ChangeSpec := { name := "footerBack", fn := fun _ => fun
  | [d1, d2, d3] => { results := [.lit (.bool true)], args := [d1, d2, d3] }
  | _ => none }
def footerBackRow : OpenClaim := { program := "ytajieadpaeggcaa", sum := "0570404001d01b79e6890d4386461534cdf33a1e6d8671c9e62305942074ce79", func := "shredder/shredderlaw19.FooterBack", spec := "footerBack", unfollowed := true, recurses := true, apart := false }
def FooterBackSaid : Prop := footerBackRow.holds Try.pinned (OpenSpec.ofChange footerBackSpec)

/-- ITS FALSE NEIGHBOUR: 'it returns false'. Refute it at one input. -/
def footerBackWrong : ChangeSpec := { name := "footerBack", fn := fun _ => fun
  | [d1, d2, d3] => { results := [.lit (.bool false)], args := [d1, d2, d3] }
  | _ => none }
def FooterBackWrongFalsely : Prop := footerBackRow.holds Try.pinned (OpenSpec.ofChange footerBackWrong)

/-- 'shredderlaw19.FooterEmpty': WHATEVER THE INPUT: true; the input reads as it did. -/
def footerEmptySpec : ChangeSpec := { name := "footerEmpty", fn := fun _ => fun
  | [d] => { results := [.lit (.bool true)], args := [d] }
  | _ => none }
def footerEmptyRow : OpenClaim := { program := "ytajieadpaeggcaa", sum := "0570404001d01b79e6890d4386461534cdf33a1e6d8671c9e62305942074ce79", func := "shredder/shredderlaw19.FooterEmpty", spec := "footerEmpty", unfollowed := true, recurses := true, apart := false }
def FooterEmptySaid : Prop := footerEmptyRow.holds Try.pinned (OpenSpec.ofChange footerEmptySpec)

/-- ITS FALSE NEIGHBOUR: 'it returns false'. Refute it at one input. -/
def footerEmptyWrong : ChangeSpec := { name := "footerEmpty", fn := fun _ => fun
  | [d] => { results := [.lit (.bool false)], args := [d] }
  | _ => none }
def FooterEmptyWrongFalsely : Prop := footerEmptyRow.holds Try.pinned (OpenSpec.ofChange footerEmptyWrong)

/-- 'shredderlaw19.FooterApart': WHATEVER THE INPUT: true; the input reads as it did. -/
def footerApartSpec : ChangeSpec := { name := "footerApart", fn := fun _ => fun
  | [d1, d2, d3, d4] => { results := [.lit (.bool true)], args := [d1, d2, d3, d4] }
  | _ => none }
def footerApartRow : OpenClaim := { program := "ytajieadpaeggcaa", sum := "0570404001d01b79e6890d4386461534cdf33a1e6d8671c9e62305942074ce79", func := "shredder/shredderlaw19.FooterApart", spec := "footerApart", unfollowed := true, recurses := true, apart := false }
def FooterApartSaid : Prop := footerApartRow.holds Try.pinned (OpenSpec.ofChange footerApartSpec)

/-- ITS FALSE NEIGHBOUR: 'it returns false'. Refute it at one input. -/
def footerApartWrong : ChangeSpec := { name := "footerApart", fn := fun _ => fun
  | [d1, d2, d3, d4] => { results := [.lit (.bool false)], args := [d1, d2, d3, d4] }
  | _ => none }
def FooterApartWrongFalsely : Prop := footerApartRow.holds Try.pinned (OpenSpec.ofChange footerApartWrong)

/- THE SECOND FORM. 'bulk': how many values and letters a reading holds, each counted each time it is reached (what is shared counts as often as it is met; a slice's spare places count too). A statement '..UptoSaid' is the law's where the arguments, and the package variables that the reading takes, are together of bulk at most 1048576: NARROWER than '..Said'. Prove '..Said' where nothing that the law and all that it calls make is longer than what came in: it says more and counts as full. Else prove '..UptoSaid'. A law counts once. -/
mutual
def uptoBulk {H : Type} : DataW H → Nat
  | .lit (.string bytes) => bytes.length + 1
  | .lit _ => 1
  | .nil => 1
  | .ptr d => uptoBulk d + 1
  | .slice elems spare => uptoBulkAll elems + uptoBulkAll spare + 1
  | .agg parts => uptoBulkAll parts + 1
  | .iface _ d => uptoBulk d + 1
  | .map entries => uptoBulkEntries entries + 1
  | .held _ => 1
def uptoBulkAll {H : Type} : List (DataW H) → Nat
  | [] => 0
  | d :: r => uptoBulk d + uptoBulkAll r
def uptoBulkEntries {H : Type} : List (Lit × DataW H) → Nat
  | [] => 0
  | x :: r => uptoBulkEntry x + uptoBulkEntries r
def uptoBulkEntry {H : Type} : Lit × DataW H → Nat
  | (.string bytes, d) => bytes.length + uptoBulk d + 1
  | (_, d) => uptoBulk d + 1
 end
def uptoSmall : (H : Type) → List (DataW H) → Bool := fun _ ds => decide (uptoBulkAll ds ≤ 1048576)
def OpenSpec.upto (s : _root_.Go.ChangeSpec) : _root_.Go.OpenSpec := { _root_.Go.OpenSpec.ofChange s with cond := some uptoSmall }

/-- 'shredderlaw19.FooterReads', WHERE WHAT IT READS IS OF BULK AT MOST 1048576: true; the input reads as it did. -/
def footerReadsUptoRow : OpenClaim := { program := "ytajieadpaeggcaa", sum := "0570404001d01b79e6890d4386461534cdf33a1e6d8671c9e62305942074ce79", func := "shredder/shredderlaw19.FooterReads", spec := "footerReads", unfollowed := true, recurses := true, apart := false, narrowed := true }
def FooterReadsUptoSaid : Prop := footerReadsUptoRow.holds Try.pinned (OpenSpec.upto footerReadsSpec)

/-- 'shredderlaw19.FooterCounts', WHERE WHAT IT READS IS OF BULK AT MOST 1048576: true; the input reads as it did. -/
def footerCountsUptoRow : OpenClaim := { program := "ytajieadpaeggcaa", sum := "0570404001d01b79e6890d4386461534cdf33a1e6d8671c9e62305942074ce79", func := "shredder/shredderlaw19.FooterCounts", spec := "footerCounts", unfollowed := true, recurses := true, apart := false, narrowed := true }
def FooterCountsUptoSaid : Prop := footerCountsUptoRow.holds Try.pinned (OpenSpec.upto footerCountsSpec)

/-- 'shredderlaw19.FooterSames', WHERE WHAT IT READS IS OF BULK AT MOST 1048576: true; the input reads as it did. -/
def footerSamesUptoRow : OpenClaim := { program := "ytajieadpaeggcaa", sum := "0570404001d01b79e6890d4386461534cdf33a1e6d8671c9e62305942074ce79", func := "shredder/shredderlaw19.FooterSames", spec := "footerSames", unfollowed := true, recurses := true, apart := false, narrowed := true }
def FooterSamesUptoSaid : Prop := footerSamesUptoRow.holds Try.pinned (OpenSpec.upto footerSamesSpec)

/-- 'shredderlaw19.FooterFronts', WHERE WHAT IT READS IS OF BULK AT MOST 1048576: true; the input reads as it did. -/
def footerFrontsUptoRow : OpenClaim := { program := "ytajieadpaeggcaa", sum := "0570404001d01b79e6890d4386461534cdf33a1e6d8671c9e62305942074ce79", func := "shredder/shredderlaw19.FooterFronts", spec := "footerFronts", unfollowed := true, recurses := true, apart := false, narrowed := true }
def FooterFrontsUptoSaid : Prop := footerFrontsUptoRow.holds Try.pinned (OpenSpec.upto footerFrontsSpec)

/-- 'shredderlaw19.FooterBack', WHERE WHAT IT READS IS OF BULK AT MOST 1048576: true; the input reads as it did. -/
def footerBackUptoRow : OpenClaim := { program := "ytajieadpaeggcaa", sum := "0570404001d01b79e6890d4386461534cdf33a1e6d8671c9e62305942074ce79", func := "shredder/shredderlaw19.FooterBack", spec := "footerBack", unfollowed := true, recurses := true, apart := false, narrowed := true }
def FooterBackUptoSaid : Prop := footerBackUptoRow.holds Try.pinned (OpenSpec.upto footerBackSpec)

/-- 'shredderlaw19.FooterEmpty', WHERE WHAT IT READS IS OF BULK AT MOST 1048576: true; the input reads as it did. -/
def footerEmptyUptoRow : OpenClaim := { program := "ytajieadpaeggcaa", sum := "0570404001d01b79e6890d4386461534cdf33a1e6d8671c9e62305942074ce79", func := "shredder/shredderlaw19.FooterEmpty", spec := "footerEmpty", unfollowed := true, recurses := true, apart := false, narrowed := true }
def FooterEmptyUptoSaid : Prop := footerEmptyUptoRow.holds Try.pinned (OpenSpec.upto footerEmptySpec)

/-- 'shredderlaw19.FooterApart', WHERE WHAT IT READS IS OF BULK AT MOST 1048576: true; the input reads as it did. -/
def footerApartUptoRow : OpenClaim := { program := "ytajieadpaeggcaa", sum := "0570404001d01b79e6890d4386461534cdf33a1e6d8671c9e62305942074ce79", func := "shredder/shredderlaw19.FooterApart", spec := "footerApart", unfollowed := true, recurses := true, apart := false, narrowed := true }
def FooterApartUptoSaid : Prop := footerApartUptoRow.holds Try.pinned (OpenSpec.upto footerApartSpec)

end Rows
end Go.Proofs.Ytajieadpaeggcaa
