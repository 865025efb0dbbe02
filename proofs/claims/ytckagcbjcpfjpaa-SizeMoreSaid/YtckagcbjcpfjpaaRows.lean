/-
  No cell of these rows narrows 'for every input' (looked for: loops, veiled, ifaces, maps, wideKeys, modest, calm, conditions, laid).
  DERIVED. THE GIVEN ROWS OF THIS SEAT. 9 by the template 'for every input the law returns true; each argument reads behind the call as it read before'; 0 by the template 'total and deterministic' (their statements: YtckagcbjcpfjpaaTotals.lean).
  GIVEN WITH THE SEED: the statements are not yours to turn. If you find one false, say at which input.
  Laid BY PROGRAM, IN A SANDBOX (cutbox-rows.mjs): the forced cells as the released guide's own fill.sh prints them over the translation 0a0bbe8f03d40a2b… (all of the seat's roots in one cut). By AI agents, Wed Nov 11 2026. No macro, syntax, notation, axiom, sorry.
-/
import Derived.Test.YtckagcbjcpfjpaaChecked
import GoSem.Claim
import GoSem.ClaimJoined
import GoSem.ClaimMapViews
import Derived.JoinedTies
import Derived.KernelRfl
namespace Go.Proofs.Ytckagcbjcpfjpaa
/- THE CELL 'sum', in the pinned program and in every row, IS THE sha256 OF THE DUMP (.gsa) THAT YtckagcbjcpfjpaaProg.lean LOADS. Nothing in Lean hashes anything: it is a label: what it is worth is what the hold of that sum in a sandbox is worth. -/
noncomputable def Try.pinned : Pinned := { name := "ytckagcbjcpfjpaa", sum := "0a0bbe8f03d40a2bcae2874412949d2462f94bfd31dca9e4e8377a360ec34006", checked := Try.checked }
namespace Rows
def none {H : Type} : Left H := { results := [], args := [] }

/-- 'meterworkslaw08.SizePeaks': WHATEVER THE INPUT: true; the input reads as it did. -/
def sizePeaksSpec : ChangeSpec := { name := "sizePeaks", fn := fun _ => fun
  | [d1, d2] => { results := [.lit (.bool true)], args := [d1, d2] }
  | _ => none }
def sizePeaksRow : OpenClaim := { program := "ytckagcbjcpfjpaa", sum := "0a0bbe8f03d40a2bcae2874412949d2462f94bfd31dca9e4e8377a360ec34006", func := "meterworks/meterworkslaw08.SizePeaks", spec := "sizePeaks", unfollowed := true, recurses := true, apart := false }
def SizePeaksSaid : Prop := sizePeaksRow.holds Try.pinned (OpenSpec.ofChange sizePeaksSpec)

/-- ITS FALSE NEIGHBOUR: 'it returns false'. Refute it at one input. -/
def sizePeaksWrong : ChangeSpec := { name := "sizePeaks", fn := fun _ => fun
  | [d1, d2] => { results := [.lit (.bool false)], args := [d1, d2] }
  | _ => none }
def SizePeaksWrongFalsely : Prop := sizePeaksRow.holds Try.pinned (OpenSpec.ofChange sizePeaksWrong)

/-- 'meterworkslaw08.SizeChooses': WHATEVER THE INPUT: true; the input reads as it did. -/
def sizeChoosesSpec : ChangeSpec := { name := "sizeChooses", fn := fun _ => fun
  | [d1, d2, d3] => { results := [.lit (.bool true)], args := [d1, d2, d3] }
  | _ => none }
def sizeChoosesRow : OpenClaim := { program := "ytckagcbjcpfjpaa", sum := "0a0bbe8f03d40a2bcae2874412949d2462f94bfd31dca9e4e8377a360ec34006", func := "meterworks/meterworkslaw08.SizeChooses", spec := "sizeChooses", unfollowed := true, recurses := true, apart := false }
def SizeChoosesSaid : Prop := sizeChoosesRow.holds Try.pinned (OpenSpec.ofChange sizeChoosesSpec)

/-- ITS FALSE NEIGHBOUR: 'it returns false'. Refute it at one input. -/
def sizeChoosesWrong : ChangeSpec := { name := "sizeChooses", fn := fun _ => fun
  | [d1, d2, d3] => { results := [.lit (.bool false)], args := [d1, d2, d3] }
  | _ => none }
def SizeChoosesWrongFalsely : Prop := sizeChoosesRow.holds Try.pinned (OpenSpec.ofChange sizeChoosesWrong)

/-- 'meterworkslaw08.SizeNames': WHATEVER THE INPUT: true; the input reads as it did. -/
def sizeNamesSpec : ChangeSpec := { name := "sizeNames", fn := fun _ => fun
  | [] => { results := [.lit (.bool true)], args := [] }
  | _ => none }
def sizeNamesRow : OpenClaim := { program := "ytckagcbjcpfjpaa", sum := "0a0bbe8f03d40a2bcae2874412949d2462f94bfd31dca9e4e8377a360ec34006", func := "meterworks/meterworkslaw08.SizeNames", spec := "sizeNames", unfollowed := true, recurses := true, apart := false }
def SizeNamesSaid : Prop := sizeNamesRow.holds Try.pinned (OpenSpec.ofChange sizeNamesSpec)

/-- ITS FALSE NEIGHBOUR: 'it returns false'. Refute it at one input. -/
def sizeNamesWrong : ChangeSpec := { name := "sizeNames", fn := fun _ => fun
  | [] => { results := [.lit (.bool false)], args := [] }
  | _ => none }
def SizeNamesWrongFalsely : Prop := sizeNamesRow.holds Try.pinned (OpenSpec.ofChange sizeNamesWrong)

/-- 'meterworkslaw08.SizeTrue': WHATEVER THE INPUT: true; the input reads as it did. -/
def sizeTrueSpec : ChangeSpec := { name := "sizeTrue", fn := fun _ => fun
  | [d1, d2, d3, d4] => { results := [.lit (.bool true)], args := [d1, d2, d3, d4] }
  | _ => none }
def sizeTrueRow : OpenClaim := { program := "ytckagcbjcpfjpaa", sum := "0a0bbe8f03d40a2bcae2874412949d2462f94bfd31dca9e4e8377a360ec34006", func := "meterworks/meterworkslaw08.SizeTrue", spec := "sizeTrue", unfollowed := true, recurses := true, apart := false }
def SizeTrueSaid : Prop := sizeTrueRow.holds Try.pinned (OpenSpec.ofChange sizeTrueSpec)

/-- ITS FALSE NEIGHBOUR: 'it returns false'. Refute it at one input. -/
def sizeTrueWrong : ChangeSpec := { name := "sizeTrue", fn := fun _ => fun
  | [d1, d2, d3, d4] => { results := [.lit (.bool false)], args := [d1, d2, d3, d4] }
  | _ => none }
def SizeTrueWrongFalsely : Prop := sizeTrueRow.holds Try.pinned (OpenSpec.ofChange sizeTrueWrong)

/-- 'meterworkslaw08.SizeStarved': WHATEVER THE INPUT: true; the input reads as it did. -/
def sizeStarvedSpec : ChangeSpec := { name := "sizeStarved", fn := fun _ => fun
  | [d1, d2, d3] => { results := [.lit (.bool true)], args := [d1, d2, d3] }
  | _ => none }
def sizeStarvedRow : OpenClaim := { program := "ytckagcbjcpfjpaa", sum := "0a0bbe8f03d40a2bcae2874412949d2462f94bfd31dca9e4e8377a360ec34006", func := "meterworks/meterworkslaw08.SizeStarved", spec := "sizeStarved", unfollowed := true, recurses := true, apart := false }
def SizeStarvedSaid : Prop := sizeStarvedRow.holds Try.pinned (OpenSpec.ofChange sizeStarvedSpec)

/-- ITS FALSE NEIGHBOUR: 'it returns false'. Refute it at one input. -/
def sizeStarvedWrong : ChangeSpec := { name := "sizeStarved", fn := fun _ => fun
  | [d1, d2, d3] => { results := [.lit (.bool false)], args := [d1, d2, d3] }
  | _ => none }
def SizeStarvedWrongFalsely : Prop := sizeStarvedRow.holds Try.pinned (OpenSpec.ofChange sizeStarvedWrong)

/-- 'meterworkslaw08.SizeSmallest': WHATEVER THE INPUT: true; the input reads as it did. -/
def sizeSmallestSpec : ChangeSpec := { name := "sizeSmallest", fn := fun _ => fun
  | [d1, d2, d3, d4] => { results := [.lit (.bool true)], args := [d1, d2, d3, d4] }
  | _ => none }
def sizeSmallestRow : OpenClaim := { program := "ytckagcbjcpfjpaa", sum := "0a0bbe8f03d40a2bcae2874412949d2462f94bfd31dca9e4e8377a360ec34006", func := "meterworks/meterworkslaw08.SizeSmallest", spec := "sizeSmallest", unfollowed := true, recurses := true, apart := false }
def SizeSmallestSaid : Prop := sizeSmallestRow.holds Try.pinned (OpenSpec.ofChange sizeSmallestSpec)

/-- ITS FALSE NEIGHBOUR: 'it returns false'. Refute it at one input. -/
def sizeSmallestWrong : ChangeSpec := { name := "sizeSmallest", fn := fun _ => fun
  | [d1, d2, d3, d4] => { results := [.lit (.bool false)], args := [d1, d2, d3, d4] }
  | _ => none }
def SizeSmallestWrongFalsely : Prop := sizeSmallestRow.holds Try.pinned (OpenSpec.ofChange sizeSmallestWrong)

/-- 'meterworkslaw08.SizePair': WHATEVER THE INPUT: true; the input reads as it did. -/
def sizePairSpec : ChangeSpec := { name := "sizePair", fn := fun _ => fun
  | [d1, d2, d3, d4] => { results := [.lit (.bool true)], args := [d1, d2, d3, d4] }
  | _ => none }
def sizePairRow : OpenClaim := { program := "ytckagcbjcpfjpaa", sum := "0a0bbe8f03d40a2bcae2874412949d2462f94bfd31dca9e4e8377a360ec34006", func := "meterworks/meterworkslaw08.SizePair", spec := "sizePair", unfollowed := true, recurses := true, apart := false }
def SizePairSaid : Prop := sizePairRow.holds Try.pinned (OpenSpec.ofChange sizePairSpec)

/-- ITS FALSE NEIGHBOUR: 'it returns false'. Refute it at one input. -/
def sizePairWrong : ChangeSpec := { name := "sizePair", fn := fun _ => fun
  | [d1, d2, d3, d4] => { results := [.lit (.bool false)], args := [d1, d2, d3, d4] }
  | _ => none }
def SizePairWrongFalsely : Prop := sizePairRow.holds Try.pinned (OpenSpec.ofChange sizePairWrong)

/-- 'meterworkslaw08.SizeMore': WHATEVER THE INPUT: true; the input reads as it did. -/
def sizeMoreSpec : ChangeSpec := { name := "sizeMore", fn := fun _ => fun
  | [d1, d2, d3, d4, d5] => { results := [.lit (.bool true)], args := [d1, d2, d3, d4, d5] }
  | _ => none }
def sizeMoreRow : OpenClaim := { program := "ytckagcbjcpfjpaa", sum := "0a0bbe8f03d40a2bcae2874412949d2462f94bfd31dca9e4e8377a360ec34006", func := "meterworks/meterworkslaw08.SizeMore", spec := "sizeMore", unfollowed := true, recurses := true, apart := false }
def SizeMoreSaid : Prop := sizeMoreRow.holds Try.pinned (OpenSpec.ofChange sizeMoreSpec)

/-- ITS FALSE NEIGHBOUR: 'it returns false'. Refute it at one input. -/
def sizeMoreWrong : ChangeSpec := { name := "sizeMore", fn := fun _ => fun
  | [d1, d2, d3, d4, d5] => { results := [.lit (.bool false)], args := [d1, d2, d3, d4, d5] }
  | _ => none }
def SizeMoreWrongFalsely : Prop := sizeMoreRow.holds Try.pinned (OpenSpec.ofChange sizeMoreWrong)

/-- 'meterworkslaw08.SizeOwns': WHATEVER THE INPUT: true; the input reads as it did. -/
def sizeOwnsSpec : ChangeSpec := { name := "sizeOwns", fn := fun _ => fun
  | [d1, d2, d3] => { results := [.lit (.bool true)], args := [d1, d2, d3] }
  | _ => none }
def sizeOwnsRow : OpenClaim := { program := "ytckagcbjcpfjpaa", sum := "0a0bbe8f03d40a2bcae2874412949d2462f94bfd31dca9e4e8377a360ec34006", func := "meterworks/meterworkslaw08.SizeOwns", spec := "sizeOwns", unfollowed := true, recurses := true, apart := false }
def SizeOwnsSaid : Prop := sizeOwnsRow.holds Try.pinned (OpenSpec.ofChange sizeOwnsSpec)

/-- ITS FALSE NEIGHBOUR: 'it returns false'. Refute it at one input. -/
def sizeOwnsWrong : ChangeSpec := { name := "sizeOwns", fn := fun _ => fun
  | [d1, d2, d3] => { results := [.lit (.bool false)], args := [d1, d2, d3] }
  | _ => none }
def SizeOwnsWrongFalsely : Prop := sizeOwnsRow.holds Try.pinned (OpenSpec.ofChange sizeOwnsWrong)

/- THE SECOND FORM. 'bulk': how many values and letters a reading holds, each counted each time it is reached (what is shared counts as often as it is met; a slice's spare places count too). A statement '..UptoSaid' is the law's where the arguments, and the package variables that the reading takes, are together of bulk at most 1048576: NARROWER than '..Said'. Prove '..Said' where nothing that the law and all that it calls make is longer than what came in: it says more and counts as full. Else prove '..UptoSaid'. A law counts once. -/
mutual
def uptoBulk {H : Type} : DataW H → Nat
  | .lit (.string bytes) => bytes.length + 1
  | .lit _ => 1
  | .nil => 1
  | .ptr d => uptoBulk d + 1
  | .slice elems spare => uptoBulkAll elems + uptoBulkAll spare + 1
  | .agg parts => uptoBulkAll parts + 1
  | .iface _ d => uptoBulk d + 1
  | .map entries => uptoBulkEntries entries + 1
  | .held _ => 1
def uptoBulkAll {H : Type} : List (DataW H) → Nat
  | [] => 0
  | d :: r => uptoBulk d + uptoBulkAll r
def uptoBulkEntries {H : Type} : List (Lit × DataW H) → Nat
  | [] => 0
  | x :: r => uptoBulkEntry x + uptoBulkEntries r
def uptoBulkEntry {H : Type} : Lit × DataW H → Nat
  | (.string bytes, d) => bytes.length + uptoBulk d + 1
  | (_, d) => uptoBulk d + 1
 end
def uptoSmall : (H : Type) → List (DataW H) → Bool := fun _ ds => decide (uptoBulkAll ds ≤ 1048576)
def OpenSpec.upto (s : _root_.Go.ChangeSpec) : _root_.Go.OpenSpec := { _root_.Go.OpenSpec.ofChange s with cond := some uptoSmall }

/-- 'meterworkslaw08.SizePeaks', WHERE WHAT IT READS IS OF BULK AT MOST 1048576: true; the input reads as it did. -/
def sizePeaksUptoRow : OpenClaim := { program := "ytckagcbjcpfjpaa", sum := "0a0bbe8f03d40a2bcae2874412949d2462f94bfd31dca9e4e8377a360ec34006", func := "meterworks/meterworkslaw08.SizePeaks", spec := "sizePeaks", unfollowed := true, recurses := true, apart := false, narrowed := true }
def SizePeaksUptoSaid : Prop := sizePeaksUptoRow.holds Try.pinned (OpenSpec.upto sizePeaksSpec)

/-- 'meterworkslaw08.SizeChooses', WHERE WHAT IT READS IS OF BULK AT MOST 1048576: true; the input reads as it did. -/
def sizeChoosesUptoRow : OpenClaim := { program := "ytckagcbjcpfjpaa", sum := "0a0bbe8f03d40a2bcae2874412949d2462f94bfd31dca9e4e8377a360ec34006", func := "meterworks/meterworkslaw08.SizeChooses", spec := "sizeChooses", unfollowed := true, recurses := true, apart := false, narrowed := true }
def SizeChoosesUptoSaid : Prop := sizeChoosesUptoRow.holds Try.pinned (OpenSpec.upto sizeChoosesSpec)

/-- 'meterworkslaw08.SizeNames', WHERE WHAT IT READS IS OF BULK AT MOST 1048576: true; the input reads as it did. -/
def sizeNamesUptoRow : OpenClaim := { program := "ytckagcbjcpfjpaa", sum := "0a0bbe8f03d40a2bcae2874412949d2462f94bfd31dca9e4e8377a360ec34006", func := "meterworks/meterworkslaw08.SizeNames", spec := "sizeNames", unfollowed := true, recurses := true, apart := false, narrowed := true }
def SizeNamesUptoSaid : Prop := sizeNamesUptoRow.holds Try.pinned (OpenSpec.upto sizeNamesSpec)

/-- 'meterworkslaw08.SizeTrue', WHERE WHAT IT READS IS OF BULK AT MOST 1048576: true; the input reads as it did. -/
def sizeTrueUptoRow : OpenClaim := { program := "ytckagcbjcpfjpaa", sum := "0a0bbe8f03d40a2bcae2874412949d2462f94bfd31dca9e4e8377a360ec34006", func := "meterworks/meterworkslaw08.SizeTrue", spec := "sizeTrue", unfollowed := true, recurses := true, apart := false, narrowed := true }
def SizeTrueUptoSaid : Prop := sizeTrueUptoRow.holds Try.pinned (OpenSpec.upto sizeTrueSpec)

/-- 'meterworkslaw08.SizeStarved', WHERE WHAT IT READS IS OF BULK AT MOST 1048576: true; the input reads as it did. -/
def sizeStarvedUptoRow : OpenClaim := { program := "ytckagcbjcpfjpaa", sum := "0a0bbe8f03d40a2bcae2874412949d2462f94bfd31dca9e4e8377a360ec34006", func := "meterworks/meterworkslaw08.SizeStarved", spec := "sizeStarved", unfollowed := true, recurses := true, apart := false, narrowed := true }
def SizeStarvedUptoSaid : Prop := sizeStarvedUptoRow.holds Try.pinned (OpenSpec.upto sizeStarvedSpec)

/-- 'meterworkslaw08.SizeSmallest', WHERE WHAT IT READS IS OF BULK AT MOST 1048576: true; the input reads as it did. -/
def sizeSmallestUptoRow : OpenClaim := { program := "ytckagcbjcpfjpaa", sum := "0a0bbe8f03d40a2bcae2874412949d2462f94bfd31dca9e4e8377a360ec34006", func := "meterworks/meterworkslaw08.SizeSmallest", spec := "sizeSmallest", unfollowed := true, recurses := true, apart := false, narrowed := true }
def SizeSmallestUptoSaid : Prop := sizeSmallestUptoRow.holds Try.pinned (OpenSpec.upto sizeSmallestSpec)

/-- 'meterworkslaw08.SizePair', WHERE WHAT IT READS IS OF BULK AT MOST 1048576: true; the input reads as it did. -/
def sizePairUptoRow : OpenClaim := { program := "ytckagcbjcpfjpaa", sum := "0a0bbe8f03d40a2bcae2874412949d2462f94bfd31dca9e4e8377a360ec34006", func := "meterworks/meterworkslaw08.SizePair", spec := "sizePair", unfollowed := true, recurses := true, apart := false, narrowed := true }
def SizePairUptoSaid : Prop := sizePairUptoRow.holds Try.pinned (OpenSpec.upto sizePairSpec)

/-- 'meterworkslaw08.SizeMore', WHERE WHAT IT READS IS OF BULK AT MOST 1048576: true; the input reads as it did. -/
def sizeMoreUptoRow : OpenClaim := { program := "ytckagcbjcpfjpaa", sum := "0a0bbe8f03d40a2bcae2874412949d2462f94bfd31dca9e4e8377a360ec34006", func := "meterworks/meterworkslaw08.SizeMore", spec := "sizeMore", unfollowed := true, recurses := true, apart := false, narrowed := true }
def SizeMoreUptoSaid : Prop := sizeMoreUptoRow.holds Try.pinned (OpenSpec.upto sizeMoreSpec)

/-- 'meterworkslaw08.SizeOwns', WHERE WHAT IT READS IS OF BULK AT MOST 1048576: true; the input reads as it did. -/
def sizeOwnsUptoRow : OpenClaim := { program := "ytckagcbjcpfjpaa", sum := "0a0bbe8f03d40a2bcae2874412949d2462f94bfd31dca9e4e8377a360ec34006", func := "meterworks/meterworkslaw08.SizeOwns", spec := "sizeOwns", unfollowed := true, recurses := true, apart := false, narrowed := true }
def SizeOwnsUptoSaid : Prop := sizeOwnsUptoRow.holds Try.pinned (OpenSpec.upto sizeOwnsSpec)

end Rows
end Go.Proofs.Ytckagcbjcpfjpaa
