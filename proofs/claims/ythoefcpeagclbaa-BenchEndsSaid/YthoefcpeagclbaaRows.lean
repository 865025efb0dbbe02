/-
  No cell of these rows narrows 'for every input' (looked for: loops, veiled, ifaces, maps, wideKeys, modest, calm, conditions, laid).
  DERIVED. THE GIVEN ROWS OF THIS SEAT. 6 by the template 'for every input the law returns true; each argument reads behind the call as it read before'; 0 by the template 'total and deterministic' (their statements: YthoefcpeagclbaaTotals.lean).
  GIVEN WITH THE SEED: the statements are not yours to turn. If you find one false, say at which input.
  Laid BY PROGRAM, IN A SANDBOX (cutbox-rows.mjs): the forced cells as the released guide's own fill.sh prints them over the translation b28d49ee11988639… (all of the seat's roots in one cut). By AI agents, Wed Nov 11 2026. No macro, syntax, notation, axiom, sorry.
-/
import Derived.Test.YthoefcpeagclbaaChecked
import GoSem.Claim
import GoSem.ClaimJoined
import GoSem.ClaimMapViews
import Derived.JoinedTies
import Derived.KernelRfl
namespace Go.Proofs.Ythoefcpeagclbaa
/- THE CELL 'sum', in the pinned program and in every row, IS THE sha256 OF THE DUMP (.gsa) THAT YthoefcpeagclbaaProg.lean LOADS. Nothing in Lean hashes anything: it is a label: what it is worth is what the hold of that sum in a sandbox is worth. -/
noncomputable def Try.pinned : Pinned := { name := "ythoefcpeagclbaa", sum := "b28d49ee11988639bc376aef3b4b5f71878dfe7ce302e654b209886cab07d561", checked := Try.checked }
namespace Rows
def none {H : Type} : Left H := { results := [], args := [] }

/-- 'meterworkslaw04.BenchWater': WHATEVER THE INPUT: true; the input reads as it did. -/
def benchWaterSpec : ChangeSpec := { name := "benchWater", fn := fun _ => fun
  | [d1, d2, d3] => { results := [.lit (.bool true)], args := [d1, d2, d3] }
  | _ => none }
def benchWaterRow : OpenClaim := { program := "ythoefcpeagclbaa", sum := "b28d49ee11988639bc376aef3b4b5f71878dfe7ce302e654b209886cab07d561", func := "meterworks/meterworkslaw04.BenchWater", spec := "benchWater", unfollowed := true, recurses := true, apart := false }
def BenchWaterSaid : Prop := benchWaterRow.holds Try.pinned (OpenSpec.ofChange benchWaterSpec)

/-- ITS FALSE NEIGHBOUR: 'it returns false'. Refute it at one input. -/
def benchWaterWrong : ChangeSpec := { name := "benchWater", fn := fun _ => fun
  | [d1, d2, d3] => { results := [.lit (.bool false)], args := [d1, d2, d3] }
  | _ => none }
def BenchWaterWrongFalsely : Prop := benchWaterRow.holds Try.pinned (OpenSpec.ofChange benchWaterWrong)

/-- 'meterworkslaw04.BenchRows': WHATEVER THE INPUT: true; the input reads as it did. -/
def benchRowsSpec : ChangeSpec := { name := "benchRows", fn := fun _ => fun
  | [d1, d2, d3, d4, d5, d6] => { results := [.lit (.bool true)], args := [d1, d2, d3, d4, d5, d6] }
  | _ => none }
def benchRowsRow : OpenClaim := { program := "ythoefcpeagclbaa", sum := "b28d49ee11988639bc376aef3b4b5f71878dfe7ce302e654b209886cab07d561", func := "meterworks/meterworkslaw04.BenchRows", spec := "benchRows", unfollowed := true, recurses := true, apart := false }
def BenchRowsSaid : Prop := benchRowsRow.holds Try.pinned (OpenSpec.ofChange benchRowsSpec)

/-- ITS FALSE NEIGHBOUR: 'it returns false'. Refute it at one input. -/
def benchRowsWrong : ChangeSpec := { name := "benchRows", fn := fun _ => fun
  | [d1, d2, d3, d4, d5, d6] => { results := [.lit (.bool false)], args := [d1, d2, d3, d4, d5, d6] }
  | _ => none }
def BenchRowsWrongFalsely : Prop := benchRowsRow.holds Try.pinned (OpenSpec.ofChange benchRowsWrong)

/-- 'meterworkslaw04.BenchTrue': WHATEVER THE INPUT: true; the input reads as it did. -/
def benchTrueSpec : ChangeSpec := { name := "benchTrue", fn := fun _ => fun
  | [d1, d2, d3, d4, d5, d6] => { results := [.lit (.bool true)], args := [d1, d2, d3, d4, d5, d6] }
  | _ => none }
def benchTrueRow : OpenClaim := { program := "ythoefcpeagclbaa", sum := "b28d49ee11988639bc376aef3b4b5f71878dfe7ce302e654b209886cab07d561", func := "meterworks/meterworkslaw04.BenchTrue", spec := "benchTrue", unfollowed := true, recurses := true, apart := false }
def BenchTrueSaid : Prop := benchTrueRow.holds Try.pinned (OpenSpec.ofChange benchTrueSpec)

/-- ITS FALSE NEIGHBOUR: 'it returns false'. Refute it at one input. -/
def benchTrueWrong : ChangeSpec := { name := "benchTrue", fn := fun _ => fun
  | [d1, d2, d3, d4, d5, d6] => { results := [.lit (.bool false)], args := [d1, d2, d3, d4, d5, d6] }
  | _ => none }
def BenchTrueWrongFalsely : Prop := benchTrueRow.holds Try.pinned (OpenSpec.ofChange benchTrueWrong)

/-- 'meterworkslaw04.BenchEnds': WHATEVER THE INPUT: true; the input reads as it did. -/
def benchEndsSpec : ChangeSpec := { name := "benchEnds", fn := fun _ => fun
  | [d1, d2, d3, d4] => { results := [.lit (.bool true)], args := [d1, d2, d3, d4] }
  | _ => none }
def benchEndsRow : OpenClaim := { program := "ythoefcpeagclbaa", sum := "b28d49ee11988639bc376aef3b4b5f71878dfe7ce302e654b209886cab07d561", func := "meterworks/meterworkslaw04.BenchEnds", spec := "benchEnds", unfollowed := true, recurses := true, apart := false }
def BenchEndsSaid : Prop := benchEndsRow.holds Try.pinned (OpenSpec.ofChange benchEndsSpec)

/-- ITS FALSE NEIGHBOUR: 'it returns false'. Refute it at one input. -/
def benchEndsWrong : ChangeSpec := { name := "benchEnds", fn := fun _ => fun
  | [d1, d2, d3, d4] => { results := [.lit (.bool false)], args := [d1, d2, d3, d4] }
  | _ => none }
def BenchEndsWrongFalsely : Prop := benchEndsRow.holds Try.pinned (OpenSpec.ofChange benchEndsWrong)

/-- 'meterworkslaw04.BenchGap': WHATEVER THE INPUT: true; the input reads as it did. -/
def benchGapSpec : ChangeSpec := { name := "benchGap", fn := fun _ => fun
  | [d1, d2, d3, d4, d5, d6] => { results := [.lit (.bool true)], args := [d1, d2, d3, d4, d5, d6] }
  | _ => none }
def benchGapRow : OpenClaim := { program := "ythoefcpeagclbaa", sum := "b28d49ee11988639bc376aef3b4b5f71878dfe7ce302e654b209886cab07d561", func := "meterworks/meterworkslaw04.BenchGap", spec := "benchGap", unfollowed := true, recurses := true, apart := false }
def BenchGapSaid : Prop := benchGapRow.holds Try.pinned (OpenSpec.ofChange benchGapSpec)

/-- ITS FALSE NEIGHBOUR: 'it returns false'. Refute it at one input. -/
def benchGapWrong : ChangeSpec := { name := "benchGap", fn := fun _ => fun
  | [d1, d2, d3, d4, d5, d6] => { results := [.lit (.bool false)], args := [d1, d2, d3, d4, d5, d6] }
  | _ => none }
def BenchGapWrongFalsely : Prop := benchGapRow.holds Try.pinned (OpenSpec.ofChange benchGapWrong)

/-- 'meterworkslaw04.BenchMore': WHATEVER THE INPUT: true; the input reads as it did. -/
def benchMoreSpec : ChangeSpec := { name := "benchMore", fn := fun _ => fun
  | [d1, d2, d3, d4, d5, d6] => { results := [.lit (.bool true)], args := [d1, d2, d3, d4, d5, d6] }
  | _ => none }
def benchMoreRow : OpenClaim := { program := "ythoefcpeagclbaa", sum := "b28d49ee11988639bc376aef3b4b5f71878dfe7ce302e654b209886cab07d561", func := "meterworks/meterworkslaw04.BenchMore", spec := "benchMore", unfollowed := true, recurses := true, apart := false }
def BenchMoreSaid : Prop := benchMoreRow.holds Try.pinned (OpenSpec.ofChange benchMoreSpec)

/-- ITS FALSE NEIGHBOUR: 'it returns false'. Refute it at one input. -/
def benchMoreWrong : ChangeSpec := { name := "benchMore", fn := fun _ => fun
  | [d1, d2, d3, d4, d5, d6] => { results := [.lit (.bool false)], args := [d1, d2, d3, d4, d5, d6] }
  | _ => none }
def BenchMoreWrongFalsely : Prop := benchMoreRow.holds Try.pinned (OpenSpec.ofChange benchMoreWrong)

/- THE SECOND FORM. 'bulk': how many values and letters a reading holds, each counted each time it is reached (what is shared counts as often as it is met; a slice's spare places count too). A statement '..UptoSaid' is the law's where the arguments, and the package variables that the reading takes, are together of bulk at most 1048576: NARROWER than '..Said'. Prove '..Said' where nothing that the law and all that it calls make is longer than what came in: it says more and counts as full. Else prove '..UptoSaid'. A law counts once. -/
mutual
def uptoBulk {H : Type} : DataW H → Nat
  | .lit (.string bytes) => bytes.length + 1
  | .lit _ => 1
  | .nil => 1
  | .ptr d => uptoBulk d + 1
  | .slice elems spare => uptoBulkAll elems + uptoBulkAll spare + 1
  | .agg parts => uptoBulkAll parts + 1
  | .iface _ d => uptoBulk d + 1
  | .map entries => uptoBulkEntries entries + 1
  | .held _ => 1
def uptoBulkAll {H : Type} : List (DataW H) → Nat
  | [] => 0
  | d :: r => uptoBulk d + uptoBulkAll r
def uptoBulkEntries {H : Type} : List (Lit × DataW H) → Nat
  | [] => 0
  | x :: r => uptoBulkEntry x + uptoBulkEntries r
def uptoBulkEntry {H : Type} : Lit × DataW H → Nat
  | (.string bytes, d) => bytes.length + uptoBulk d + 1
  | (_, d) => uptoBulk d + 1
 end
def uptoSmall : (H : Type) → List (DataW H) → Bool := fun _ ds => decide (uptoBulkAll ds ≤ 1048576)
def OpenSpec.upto (s : _root_.Go.ChangeSpec) : _root_.Go.OpenSpec := { _root_.Go.OpenSpec.ofChange s with cond := some uptoSmall }

/-- 'meterworkslaw04.BenchWater', WHERE WHAT IT READS IS OF BULK AT MOST 1048576: true; the input reads as it did. -/
def benchWaterUptoRow : OpenClaim := { program := "ythoefcpeagclbaa", sum := "b28d49ee11988639bc376aef3b4b5f71878dfe7ce302e654b209886cab07d561", func := "meterworks/meterworkslaw04.BenchWater", spec := "benchWater", unfollowed := true, recurses := true, apart := false, narrowed := true }
def BenchWaterUptoSaid : Prop := benchWaterUptoRow.holds Try.pinned (OpenSpec.upto benchWaterSpec)

/-- 'meterworkslaw04.BenchRows', WHERE WHAT IT READS IS OF BULK AT MOST 1048576: true; the input reads as it did. -/
def benchRowsUptoRow : OpenClaim := { program := "ythoefcpeagclbaa", sum := "b28d49ee11988639bc376aef3b4b5f71878dfe7ce302e654b209886cab07d561", func := "meterworks/meterworkslaw04.BenchRows", spec := "benchRows", unfollowed := true, recurses := true, apart := false, narrowed := true }
def BenchRowsUptoSaid : Prop := benchRowsUptoRow.holds Try.pinned (OpenSpec.upto benchRowsSpec)

/-- 'meterworkslaw04.BenchTrue', WHERE WHAT IT READS IS OF BULK AT MOST 1048576: true; the input reads as it did. -/
def benchTrueUptoRow : OpenClaim := { program := "ythoefcpeagclbaa", sum := "b28d49ee11988639bc376aef3b4b5f71878dfe7ce302e654b209886cab07d561", func := "meterworks/meterworkslaw04.BenchTrue", spec := "benchTrue", unfollowed := true, recurses := true, apart := false, narrowed := true }
def BenchTrueUptoSaid : Prop := benchTrueUptoRow.holds Try.pinned (OpenSpec.upto benchTrueSpec)

/-- 'meterworkslaw04.BenchEnds', WHERE WHAT IT READS IS OF BULK AT MOST 1048576: true; the input reads as it did. -/
def benchEndsUptoRow : OpenClaim := { program := "ythoefcpeagclbaa", sum := "b28d49ee11988639bc376aef3b4b5f71878dfe7ce302e654b209886cab07d561", func := "meterworks/meterworkslaw04.BenchEnds", spec := "benchEnds", unfollowed := true, recurses := true, apart := false, narrowed := true }
def BenchEndsUptoSaid : Prop := benchEndsUptoRow.holds Try.pinned (OpenSpec.upto benchEndsSpec)

/-- 'meterworkslaw04.BenchGap', WHERE WHAT IT READS IS OF BULK AT MOST 1048576: true; the input reads as it did. -/
def benchGapUptoRow : OpenClaim := { program := "ythoefcpeagclbaa", sum := "b28d49ee11988639bc376aef3b4b5f71878dfe7ce302e654b209886cab07d561", func := "meterworks/meterworkslaw04.BenchGap", spec := "benchGap", unfollowed := true, recurses := true, apart := false, narrowed := true }
def BenchGapUptoSaid : Prop := benchGapUptoRow.holds Try.pinned (OpenSpec.upto benchGapSpec)

/-- 'meterworkslaw04.BenchMore', WHERE WHAT IT READS IS OF BULK AT MOST 1048576: true; the input reads as it did. -/
def benchMoreUptoRow : OpenClaim := { program := "ythoefcpeagclbaa", sum := "b28d49ee11988639bc376aef3b4b5f71878dfe7ce302e654b209886cab07d561", func := "meterworks/meterworkslaw04.BenchMore", spec := "benchMore", unfollowed := true, recurses := true, apart := false, narrowed := true }
def BenchMoreUptoSaid : Prop := benchMoreUptoRow.holds Try.pinned (OpenSpec.upto benchMoreSpec)

end Rows
end Go.Proofs.Ythoefcpeagclbaa
