/-
  No cell of these rows narrows 'for every input' (looked for: loops, veiled, ifaces, maps, wideKeys, modest, calm, conditions, laid).
  DERIVED. THE GIVEN ROWS OF THIS SEAT. 9 by the template 'for every input the law returns true; each argument reads behind the call as it read before'; 0 by the template 'total and deterministic' (their statements: YtjffmehcbaechaaTotals.lean).
  GIVEN WITH THE SEED: the statements are not yours to turn. If you find one false, say at which input.
  Laid BY PROGRAM, IN A SANDBOX (cutbox-rows.mjs): the forced cells as the released guide's own fill.sh prints them over the translation d59a1ad06fd66230… (all of the seat's roots in one cut). By AI agents, Wed Nov 11 2026. No macro, syntax, notation, axiom, sorry.
-/
import Derived.Test.YtjffmehcbaechaaChecked
import GoSem.Claim
import GoSem.ClaimJoined
import GoSem.ClaimMapViews
import Derived.JoinedTies
import Derived.KernelRfl
namespace Go.Proofs.Ytjffmehcbaechaa
/- THE CELL 'sum', in the pinned program and in every row, IS THE sha256 OF THE DUMP (.gsa) THAT YtjffmehcbaechaaProg.lean LOADS. Nothing in Lean hashes anything: it is a label: what it is worth is what the hold of that sum in a sandbox is worth. -/
noncomputable def Try.pinned : Pinned := { name := "ytjffmehcbaechaa", sum := "d59a1ad06fd66230cbf3a67b6c0867e400d3e1adabf8aaff27b72291fa9959a4", checked := Try.checked }
namespace Rows
def none {H : Type} : Left H := { results := [], args := [] }

/-- 'shredderlaw6.TextReads': WHATEVER THE INPUT: true; the input reads as it did. -/
def textReadsSpec : ChangeSpec := { name := "textReads", fn := fun _ => fun
  | [d1, d2, d3, d4, d5, d6] => { results := [.lit (.bool true)], args := [d1, d2, d3, d4, d5, d6] }
  | _ => none }
def textReadsRow : OpenClaim := { program := "ytjffmehcbaechaa", sum := "d59a1ad06fd66230cbf3a67b6c0867e400d3e1adabf8aaff27b72291fa9959a4", func := "shredder/shredderlaw6.TextReads", spec := "textReads", unfollowed := true, recurses := true, apart := false }
def TextReadsSaid : Prop := textReadsRow.holds Try.pinned (OpenSpec.ofChange textReadsSpec)

/-- ITS FALSE NEIGHBOUR: 'it returns false'. Refute it at one input. -/
def textReadsWrong : ChangeSpec := { name := "textReads", fn := fun _ => fun
  | [d1, d2, d3, d4, d5, d6] => { results := [.lit (.bool false)], args := [d1, d2, d3, d4, d5, d6] }
  | _ => none }
def TextReadsWrongFalsely : Prop := textReadsRow.holds Try.pinned (OpenSpec.ofChange textReadsWrong)

/-- 'shredderlaw6.TextBlanks': WHATEVER THE INPUT: true; the input reads as it did. -/
def textBlanksSpec : ChangeSpec := { name := "textBlanks", fn := fun _ => fun
  | [d1, d2] => { results := [.lit (.bool true)], args := [d1, d2] }
  | _ => none }
def textBlanksRow : OpenClaim := { program := "ytjffmehcbaechaa", sum := "d59a1ad06fd66230cbf3a67b6c0867e400d3e1adabf8aaff27b72291fa9959a4", func := "shredder/shredderlaw6.TextBlanks", spec := "textBlanks", unfollowed := true, recurses := true, apart := false }
def TextBlanksSaid : Prop := textBlanksRow.holds Try.pinned (OpenSpec.ofChange textBlanksSpec)

/-- ITS FALSE NEIGHBOUR: 'it returns false'. Refute it at one input. -/
def textBlanksWrong : ChangeSpec := { name := "textBlanks", fn := fun _ => fun
  | [d1, d2] => { results := [.lit (.bool false)], args := [d1, d2] }
  | _ => none }
def TextBlanksWrongFalsely : Prop := textBlanksRow.holds Try.pinned (OpenSpec.ofChange textBlanksWrong)

/-- 'shredderlaw6.TextDeep': WHATEVER THE INPUT: true; the input reads as it did. -/
def textDeepSpec : ChangeSpec := { name := "textDeep", fn := fun _ => fun
  | [d1, d2] => { results := [.lit (.bool true)], args := [d1, d2] }
  | _ => none }
def textDeepRow : OpenClaim := { program := "ytjffmehcbaechaa", sum := "d59a1ad06fd66230cbf3a67b6c0867e400d3e1adabf8aaff27b72291fa9959a4", func := "shredder/shredderlaw6.TextDeep", spec := "textDeep", unfollowed := true, recurses := true, apart := false }
def TextDeepSaid : Prop := textDeepRow.holds Try.pinned (OpenSpec.ofChange textDeepSpec)

/-- ITS FALSE NEIGHBOUR: 'it returns false'. Refute it at one input. -/
def textDeepWrong : ChangeSpec := { name := "textDeep", fn := fun _ => fun
  | [d1, d2] => { results := [.lit (.bool false)], args := [d1, d2] }
  | _ => none }
def TextDeepWrongFalsely : Prop := textDeepRow.holds Try.pinned (OpenSpec.ofChange textDeepWrong)

/-- 'shredderlaw6.TextWords': WHATEVER THE INPUT: true; the input reads as it did. -/
def textWordsSpec : ChangeSpec := { name := "textWords", fn := fun _ => fun
  | [d] => { results := [.lit (.bool true)], args := [d] }
  | _ => none }
def textWordsRow : OpenClaim := { program := "ytjffmehcbaechaa", sum := "d59a1ad06fd66230cbf3a67b6c0867e400d3e1adabf8aaff27b72291fa9959a4", func := "shredder/shredderlaw6.TextWords", spec := "textWords", unfollowed := true, recurses := true, apart := false }
def TextWordsSaid : Prop := textWordsRow.holds Try.pinned (OpenSpec.ofChange textWordsSpec)

/-- ITS FALSE NEIGHBOUR: 'it returns false'. Refute it at one input. -/
def textWordsWrong : ChangeSpec := { name := "textWords", fn := fun _ => fun
  | [d] => { results := [.lit (.bool false)], args := [d] }
  | _ => none }
def TextWordsWrongFalsely : Prop := textWordsRow.holds Try.pinned (OpenSpec.ofChange textWordsWrong)

/-- 'shredderlaw6.TextBad': WHATEVER THE INPUT: true; the input reads as it did. -/
def textBadSpec : ChangeSpec := { name := "textBad", fn := fun _ => fun
  | [d] => { results := [.lit (.bool true)], args := [d] }
  | _ => none }
def textBadRow : OpenClaim := { program := "ytjffmehcbaechaa", sum := "d59a1ad06fd66230cbf3a67b6c0867e400d3e1adabf8aaff27b72291fa9959a4", func := "shredder/shredderlaw6.TextBad", spec := "textBad", unfollowed := true, recurses := true, apart := false }
def TextBadSaid : Prop := textBadRow.holds Try.pinned (OpenSpec.ofChange textBadSpec)

/-- ITS FALSE NEIGHBOUR: 'it returns false'. Refute it at one input. -/
def textBadWrong : ChangeSpec := { name := "textBad", fn := fun _ => fun
  | [d] => { results := [.lit (.bool false)], args := [d] }
  | _ => none }
def TextBadWrongFalsely : Prop := textBadRow.holds Try.pinned (OpenSpec.ofChange textBadWrong)

/-- 'shredderlaw6.TextTight': WHATEVER THE INPUT: true; the input reads as it did. -/
def textTightSpec : ChangeSpec := { name := "textTight", fn := fun _ => fun
  | [d] => { results := [.lit (.bool true)], args := [d] }
  | _ => none }
def textTightRow : OpenClaim := { program := "ytjffmehcbaechaa", sum := "d59a1ad06fd66230cbf3a67b6c0867e400d3e1adabf8aaff27b72291fa9959a4", func := "shredder/shredderlaw6.TextTight", spec := "textTight", unfollowed := true, recurses := true, apart := false }
def TextTightSaid : Prop := textTightRow.holds Try.pinned (OpenSpec.ofChange textTightSpec)

/-- ITS FALSE NEIGHBOUR: 'it returns false'. Refute it at one input. -/
def textTightWrong : ChangeSpec := { name := "textTight", fn := fun _ => fun
  | [d] => { results := [.lit (.bool false)], args := [d] }
  | _ => none }
def TextTightWrongFalsely : Prop := textTightRow.holds Try.pinned (OpenSpec.ofChange textTightWrong)

/-- 'shredderlaw6.TextSigns': WHATEVER THE INPUT: true; the input reads as it did. -/
def textSignsSpec : ChangeSpec := { name := "textSigns", fn := fun _ => fun
  | [d1, d2, d3] => { results := [.lit (.bool true)], args := [d1, d2, d3] }
  | _ => none }
def textSignsRow : OpenClaim := { program := "ytjffmehcbaechaa", sum := "d59a1ad06fd66230cbf3a67b6c0867e400d3e1adabf8aaff27b72291fa9959a4", func := "shredder/shredderlaw6.TextSigns", spec := "textSigns", unfollowed := true, recurses := true, apart := false }
def TextSignsSaid : Prop := textSignsRow.holds Try.pinned (OpenSpec.ofChange textSignsSpec)

/-- ITS FALSE NEIGHBOUR: 'it returns false'. Refute it at one input. -/
def textSignsWrong : ChangeSpec := { name := "textSigns", fn := fun _ => fun
  | [d1, d2, d3] => { results := [.lit (.bool false)], args := [d1, d2, d3] }
  | _ => none }
def TextSignsWrongFalsely : Prop := textSignsRow.holds Try.pinned (OpenSpec.ofChange textSignsWrong)

/-- 'shredderlaw6.TextPrints': WHATEVER THE INPUT: true; the input reads as it did. -/
def textPrintsSpec : ChangeSpec := { name := "textPrints", fn := fun _ => fun
  | [d] => { results := [.lit (.bool true)], args := [d] }
  | _ => none }
def textPrintsRow : OpenClaim := { program := "ytjffmehcbaechaa", sum := "d59a1ad06fd66230cbf3a67b6c0867e400d3e1adabf8aaff27b72291fa9959a4", func := "shredder/shredderlaw6.TextPrints", spec := "textPrints", inPlace := ["internal/abi.NoEscape", "internal/bytealg.MakeNoZero"], unfollowed := true, recurses := true, apart := false }
def TextPrintsSaid : Prop := textPrintsRow.holds Try.pinned (OpenSpec.ofChange textPrintsSpec)

/-- ITS FALSE NEIGHBOUR: 'it returns false'. Refute it at one input. -/
def textPrintsWrong : ChangeSpec := { name := "textPrints", fn := fun _ => fun
  | [d] => { results := [.lit (.bool false)], args := [d] }
  | _ => none }
def TextPrintsWrongFalsely : Prop := textPrintsRow.holds Try.pinned (OpenSpec.ofChange textPrintsWrong)

/-- 'shredderlaw6.TextLines': WHATEVER THE INPUT: true; the input reads as it did. -/
def textLinesSpec : ChangeSpec := { name := "textLines", fn := fun _ => fun
  | [d] => { results := [.lit (.bool true)], args := [d] }
  | _ => none }
def textLinesRow : OpenClaim := { program := "ytjffmehcbaechaa", sum := "d59a1ad06fd66230cbf3a67b6c0867e400d3e1adabf8aaff27b72291fa9959a4", func := "shredder/shredderlaw6.TextLines", spec := "textLines", inPlace := ["internal/abi.NoEscape", "internal/bytealg.MakeNoZero"], unfollowed := true, recurses := true, apart := false }
def TextLinesSaid : Prop := textLinesRow.holds Try.pinned (OpenSpec.ofChange textLinesSpec)

/-- ITS FALSE NEIGHBOUR: 'it returns false'. Refute it at one input. -/
def textLinesWrong : ChangeSpec := { name := "textLines", fn := fun _ => fun
  | [d] => { results := [.lit (.bool false)], args := [d] }
  | _ => none }
def TextLinesWrongFalsely : Prop := textLinesRow.holds Try.pinned (OpenSpec.ofChange textLinesWrong)

/- THE SECOND FORM. 'bulk': how many values and letters a reading holds, each counted each time it is reached (what is shared counts as often as it is met; a slice's spare places count too). A statement '..UptoSaid' is the law's where the arguments, and the package variables that the reading takes, are together of bulk at most 1048576: NARROWER than '..Said'. Prove '..Said' where nothing that the law and all that it calls make is longer than what came in: it says more and counts as full. Else prove '..UptoSaid'. A law counts once. -/
mutual
def uptoBulk {H : Type} : DataW H → Nat
  | .lit (.string bytes) => bytes.length + 1
  | .lit _ => 1
  | .nil => 1
  | .ptr d => uptoBulk d + 1
  | .slice elems spare => uptoBulkAll elems + uptoBulkAll spare + 1
  | .agg parts => uptoBulkAll parts + 1
  | .iface _ d => uptoBulk d + 1
  | .map entries => uptoBulkEntries entries + 1
  | .held _ => 1
def uptoBulkAll {H : Type} : List (DataW H) → Nat
  | [] => 0
  | d :: r => uptoBulk d + uptoBulkAll r
def uptoBulkEntries {H : Type} : List (Lit × DataW H) → Nat
  | [] => 0
  | x :: r => uptoBulkEntry x + uptoBulkEntries r
def uptoBulkEntry {H : Type} : Lit × DataW H → Nat
  | (.string bytes, d) => bytes.length + uptoBulk d + 1
  | (_, d) => uptoBulk d + 1
 end
def uptoSmall : (H : Type) → List (DataW H) → Bool := fun _ ds => decide (uptoBulkAll ds ≤ 1048576)
def OpenSpec.upto (s : _root_.Go.ChangeSpec) : _root_.Go.OpenSpec := { _root_.Go.OpenSpec.ofChange s with cond := some uptoSmall }

/-- 'shredderlaw6.TextReads', WHERE WHAT IT READS IS OF BULK AT MOST 1048576: true; the input reads as it did. -/
def textReadsUptoRow : OpenClaim := { program := "ytjffmehcbaechaa", sum := "d59a1ad06fd66230cbf3a67b6c0867e400d3e1adabf8aaff27b72291fa9959a4", func := "shredder/shredderlaw6.TextReads", spec := "textReads", unfollowed := true, recurses := true, apart := false, narrowed := true }
def TextReadsUptoSaid : Prop := textReadsUptoRow.holds Try.pinned (OpenSpec.upto textReadsSpec)

/-- 'shredderlaw6.TextBlanks', WHERE WHAT IT READS IS OF BULK AT MOST 1048576: true; the input reads as it did. -/
def textBlanksUptoRow : OpenClaim := { program := "ytjffmehcbaechaa", sum := "d59a1ad06fd66230cbf3a67b6c0867e400d3e1adabf8aaff27b72291fa9959a4", func := "shredder/shredderlaw6.TextBlanks", spec := "textBlanks", unfollowed := true, recurses := true, apart := false, narrowed := true }
def TextBlanksUptoSaid : Prop := textBlanksUptoRow.holds Try.pinned (OpenSpec.upto textBlanksSpec)

/-- 'shredderlaw6.TextDeep', WHERE WHAT IT READS IS OF BULK AT MOST 1048576: true; the input reads as it did. -/
def textDeepUptoRow : OpenClaim := { program := "ytjffmehcbaechaa", sum := "d59a1ad06fd66230cbf3a67b6c0867e400d3e1adabf8aaff27b72291fa9959a4", func := "shredder/shredderlaw6.TextDeep", spec := "textDeep", unfollowed := true, recurses := true, apart := false, narrowed := true }
def TextDeepUptoSaid : Prop := textDeepUptoRow.holds Try.pinned (OpenSpec.upto textDeepSpec)

/-- 'shredderlaw6.TextWords', WHERE WHAT IT READS IS OF BULK AT MOST 1048576: true; the input reads as it did. -/
def textWordsUptoRow : OpenClaim := { program := "ytjffmehcbaechaa", sum := "d59a1ad06fd66230cbf3a67b6c0867e400d3e1adabf8aaff27b72291fa9959a4", func := "shredder/shredderlaw6.TextWords", spec := "textWords", unfollowed := true, recurses := true, apart := false, narrowed := true }
def TextWordsUptoSaid : Prop := textWordsUptoRow.holds Try.pinned (OpenSpec.upto textWordsSpec)

/-- 'shredderlaw6.TextBad', WHERE WHAT IT READS IS OF BULK AT MOST 1048576: true; the input reads as it did. -/
def textBadUptoRow : OpenClaim := { program := "ytjffmehcbaechaa", sum := "d59a1ad06fd66230cbf3a67b6c0867e400d3e1adabf8aaff27b72291fa9959a4", func := "shredder/shredderlaw6.TextBad", spec := "textBad", unfollowed := true, recurses := true, apart := false, narrowed := true }
def TextBadUptoSaid : Prop := textBadUptoRow.holds Try.pinned (OpenSpec.upto textBadSpec)

/-- 'shredderlaw6.TextTight', WHERE WHAT IT READS IS OF BULK AT MOST 1048576: true; the input reads as it did. -/
def textTightUptoRow : OpenClaim := { program := "ytjffmehcbaechaa", sum := "d59a1ad06fd66230cbf3a67b6c0867e400d3e1adabf8aaff27b72291fa9959a4", func := "shredder/shredderlaw6.TextTight", spec := "textTight", unfollowed := true, recurses := true, apart := false, narrowed := true }
def TextTightUptoSaid : Prop := textTightUptoRow.holds Try.pinned (OpenSpec.upto textTightSpec)

/-- 'shredderlaw6.TextSigns', WHERE WHAT IT READS IS OF BULK AT MOST 1048576: true; the input reads as it did. -/
def textSignsUptoRow : OpenClaim := { program := "ytjffmehcbaechaa", sum := "d59a1ad06fd66230cbf3a67b6c0867e400d3e1adabf8aaff27b72291fa9959a4", func := "shredder/shredderlaw6.TextSigns", spec := "textSigns", unfollowed := true, recurses := true, apart := false, narrowed := true }
def TextSignsUptoSaid : Prop := textSignsUptoRow.holds Try.pinned (OpenSpec.upto textSignsSpec)

/-- 'shredderlaw6.TextPrints', WHERE WHAT IT READS IS OF BULK AT MOST 1048576: true; the input reads as it did. -/
def textPrintsUptoRow : OpenClaim := { program := "ytjffmehcbaechaa", sum := "d59a1ad06fd66230cbf3a67b6c0867e400d3e1adabf8aaff27b72291fa9959a4", func := "shredder/shredderlaw6.TextPrints", spec := "textPrints", inPlace := ["internal/abi.NoEscape", "internal/bytealg.MakeNoZero"], unfollowed := true, recurses := true, apart := false, narrowed := true }
def TextPrintsUptoSaid : Prop := textPrintsUptoRow.holds Try.pinned (OpenSpec.upto textPrintsSpec)

/-- 'shredderlaw6.TextLines', WHERE WHAT IT READS IS OF BULK AT MOST 1048576: true; the input reads as it did. -/
def textLinesUptoRow : OpenClaim := { program := "ytjffmehcbaechaa", sum := "d59a1ad06fd66230cbf3a67b6c0867e400d3e1adabf8aaff27b72291fa9959a4", func := "shredder/shredderlaw6.TextLines", spec := "textLines", inPlace := ["internal/abi.NoEscape", "internal/bytealg.MakeNoZero"], unfollowed := true, recurses := true, apart := false, narrowed := true }
def TextLinesUptoSaid : Prop := textLinesUptoRow.holds Try.pinned (OpenSpec.upto textLinesSpec)

end Rows
end Go.Proofs.Ytjffmehcbaechaa
