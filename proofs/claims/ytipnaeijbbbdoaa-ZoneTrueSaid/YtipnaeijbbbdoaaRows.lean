/-
  No cell of these rows narrows 'for every input' (looked for: loops, veiled, ifaces, maps, wideKeys, modest, calm, conditions, laid).
  DERIVED. THE GIVEN ROWS OF THIS SEAT. 7 by the template 'for every input the law returns true; each argument reads behind the call as it read before'; 0 by the template 'total and deterministic' (their statements: YtipnaeijbbbdoaaTotals.lean).
  GIVEN WITH THE SEED: the statements are not yours to turn. If you find one false, say at which input.
  Laid BY PROGRAM, IN A SANDBOX (cutbox-rows.mjs): the forced cells as the released guide's own fill.sh prints them over the translation 2ee52c56dcd635b2… (all of the seat's roots in one cut). By AI agents, Wed Nov 11 2026. No macro, syntax, notation, axiom, sorry.
-/
import Derived.Test.YtipnaeijbbbdoaaChecked
import GoSem.Claim
import GoSem.ClaimJoined
import GoSem.ClaimMapViews
import Derived.JoinedTies
import Derived.KernelRfl
namespace Go.Proofs.Ytipnaeijbbbdoaa
/- THE CELL 'sum', in the pinned program and in every row, IS THE sha256 OF THE DUMP (.gsa) THAT YtipnaeijbbbdoaaProg.lean LOADS. Nothing in Lean hashes anything: it is a label: what it is worth is what the hold of that sum in a sandbox is worth. -/
noncomputable def Try.pinned : Pinned := { name := "ytipnaeijbbbdoaa", sum := "2ee52c56dcd635b22c115afaf5bc045553e29869e0bfd7c2fdee840536abd449", checked := Try.checked }
namespace Rows
def none {H : Type} : Left H := { results := [], args := [] }

/-- 'meterworkslaw09.ZoneLosses': WHATEVER THE INPUT: true; the input reads as it did. -/
def zoneLossesSpec : ChangeSpec := { name := "zoneLosses", fn := fun _ => fun
  | [d] => { results := [.lit (.bool true)], args := [d] }
  | _ => none }
def zoneLossesRow : OpenClaim := { program := "ytipnaeijbbbdoaa", sum := "2ee52c56dcd635b22c115afaf5bc045553e29869e0bfd7c2fdee840536abd449", func := "meterworks/meterworkslaw09.ZoneLosses", spec := "zoneLosses", unfollowed := true, recurses := true, apart := false }
def ZoneLossesSaid : Prop := zoneLossesRow.holds Try.pinned (OpenSpec.ofChange zoneLossesSpec)

/-- ITS FALSE NEIGHBOUR: 'it returns false'. Refute it at one input. -/
def zoneLossesWrong : ChangeSpec := { name := "zoneLosses", fn := fun _ => fun
  | [d] => { results := [.lit (.bool false)], args := [d] }
  | _ => none }
def ZoneLossesWrongFalsely : Prop := zoneLossesRow.holds Try.pinned (OpenSpec.ofChange zoneLossesWrong)

/-- 'meterworkslaw09.ZoneLeaks': WHATEVER THE INPUT: true; the input reads as it did. -/
def zoneLeaksSpec : ChangeSpec := { name := "zoneLeaks", fn := fun _ => fun
  | [d1, d2] => { results := [.lit (.bool true)], args := [d1, d2] }
  | _ => none }
def zoneLeaksRow : OpenClaim := { program := "ytipnaeijbbbdoaa", sum := "2ee52c56dcd635b22c115afaf5bc045553e29869e0bfd7c2fdee840536abd449", func := "meterworks/meterworkslaw09.ZoneLeaks", spec := "zoneLeaks", unfollowed := true, recurses := true, apart := false }
def ZoneLeaksSaid : Prop := zoneLeaksRow.holds Try.pinned (OpenSpec.ofChange zoneLeaksSpec)

/-- ITS FALSE NEIGHBOUR: 'it returns false'. Refute it at one input. -/
def zoneLeaksWrong : ChangeSpec := { name := "zoneLeaks", fn := fun _ => fun
  | [d1, d2] => { results := [.lit (.bool false)], args := [d1, d2] }
  | _ => none }
def ZoneLeaksWrongFalsely : Prop := zoneLeaksRow.holds Try.pinned (OpenSpec.ofChange zoneLeaksWrong)

/-- 'meterworkslaw09.ZoneTrue': WHATEVER THE INPUT: true; the input reads as it did. -/
def zoneTrueSpec : ChangeSpec := { name := "zoneTrue", fn := fun _ => fun
  | [d] => { results := [.lit (.bool true)], args := [d] }
  | _ => none }
def zoneTrueRow : OpenClaim := { program := "ytipnaeijbbbdoaa", sum := "2ee52c56dcd635b22c115afaf5bc045553e29869e0bfd7c2fdee840536abd449", func := "meterworks/meterworkslaw09.ZoneTrue", spec := "zoneTrue", unfollowed := true, recurses := true, apart := false }
def ZoneTrueSaid : Prop := zoneTrueRow.holds Try.pinned (OpenSpec.ofChange zoneTrueSpec)

/-- ITS FALSE NEIGHBOUR: 'it returns false'. Refute it at one input. -/
def zoneTrueWrong : ChangeSpec := { name := "zoneTrue", fn := fun _ => fun
  | [d] => { results := [.lit (.bool false)], args := [d] }
  | _ => none }
def ZoneTrueWrongFalsely : Prop := zoneTrueRow.holds Try.pinned (OpenSpec.ofChange zoneTrueWrong)

/-- 'meterworkslaw09.ZoneEnds': WHATEVER THE INPUT: true; the input reads as it did. -/
def zoneEndsSpec : ChangeSpec := { name := "zoneEnds", fn := fun _ => fun
  | [d1, d2] => { results := [.lit (.bool true)], args := [d1, d2] }
  | _ => none }
def zoneEndsRow : OpenClaim := { program := "ytipnaeijbbbdoaa", sum := "2ee52c56dcd635b22c115afaf5bc045553e29869e0bfd7c2fdee840536abd449", func := "meterworks/meterworkslaw09.ZoneEnds", spec := "zoneEnds", unfollowed := true, recurses := true, apart := false }
def ZoneEndsSaid : Prop := zoneEndsRow.holds Try.pinned (OpenSpec.ofChange zoneEndsSpec)

/-- ITS FALSE NEIGHBOUR: 'it returns false'. Refute it at one input. -/
def zoneEndsWrong : ChangeSpec := { name := "zoneEnds", fn := fun _ => fun
  | [d1, d2] => { results := [.lit (.bool false)], args := [d1, d2] }
  | _ => none }
def ZoneEndsWrongFalsely : Prop := zoneEndsRow.holds Try.pinned (OpenSpec.ofChange zoneEndsWrong)

/-- 'meterworkslaw09.ZoneSums': WHATEVER THE INPUT: true; the input reads as it did. -/
def zoneSumsSpec : ChangeSpec := { name := "zoneSums", fn := fun _ => fun
  | [d] => { results := [.lit (.bool true)], args := [d] }
  | _ => none }
def zoneSumsRow : OpenClaim := { program := "ytipnaeijbbbdoaa", sum := "2ee52c56dcd635b22c115afaf5bc045553e29869e0bfd7c2fdee840536abd449", func := "meterworks/meterworkslaw09.ZoneSums", spec := "zoneSums", unfollowed := true, recurses := true, apart := false }
def ZoneSumsSaid : Prop := zoneSumsRow.holds Try.pinned (OpenSpec.ofChange zoneSumsSpec)

/-- ITS FALSE NEIGHBOUR: 'it returns false'. Refute it at one input. -/
def zoneSumsWrong : ChangeSpec := { name := "zoneSums", fn := fun _ => fun
  | [d] => { results := [.lit (.bool false)], args := [d] }
  | _ => none }
def ZoneSumsWrongFalsely : Prop := zoneSumsRow.holds Try.pinned (OpenSpec.ofChange zoneSumsWrong)

/-- 'meterworkslaw09.ZoneMore': WHATEVER THE INPUT: true; the input reads as it did. -/
def zoneMoreSpec : ChangeSpec := { name := "zoneMore", fn := fun _ => fun
  | [d1, d2, d3] => { results := [.lit (.bool true)], args := [d1, d2, d3] }
  | _ => none }
def zoneMoreRow : OpenClaim := { program := "ytipnaeijbbbdoaa", sum := "2ee52c56dcd635b22c115afaf5bc045553e29869e0bfd7c2fdee840536abd449", func := "meterworks/meterworkslaw09.ZoneMore", spec := "zoneMore", unfollowed := true, recurses := true, apart := false }
def ZoneMoreSaid : Prop := zoneMoreRow.holds Try.pinned (OpenSpec.ofChange zoneMoreSpec)

/-- ITS FALSE NEIGHBOUR: 'it returns false'. Refute it at one input. -/
def zoneMoreWrong : ChangeSpec := { name := "zoneMore", fn := fun _ => fun
  | [d1, d2, d3] => { results := [.lit (.bool false)], args := [d1, d2, d3] }
  | _ => none }
def ZoneMoreWrongFalsely : Prop := zoneMoreRow.holds Try.pinned (OpenSpec.ofChange zoneMoreWrong)

/-- 'meterworkslaw09.ZoneFirst': WHATEVER THE INPUT: true; the input reads as it did. -/
def zoneFirstSpec : ChangeSpec := { name := "zoneFirst", fn := fun _ => fun
  | [d1, d2, d3, d4] => { results := [.lit (.bool true)], args := [d1, d2, d3, d4] }
  | _ => none }
def zoneFirstRow : OpenClaim := { program := "ytipnaeijbbbdoaa", sum := "2ee52c56dcd635b22c115afaf5bc045553e29869e0bfd7c2fdee840536abd449", func := "meterworks/meterworkslaw09.ZoneFirst", spec := "zoneFirst", unfollowed := true, recurses := true, apart := false }
def ZoneFirstSaid : Prop := zoneFirstRow.holds Try.pinned (OpenSpec.ofChange zoneFirstSpec)

/-- ITS FALSE NEIGHBOUR: 'it returns false'. Refute it at one input. -/
def zoneFirstWrong : ChangeSpec := { name := "zoneFirst", fn := fun _ => fun
  | [d1, d2, d3, d4] => { results := [.lit (.bool false)], args := [d1, d2, d3, d4] }
  | _ => none }
def ZoneFirstWrongFalsely : Prop := zoneFirstRow.holds Try.pinned (OpenSpec.ofChange zoneFirstWrong)

/- THE SECOND FORM. 'bulk': how many values and letters a reading holds, each counted each time it is reached (what is shared counts as often as it is met; a slice's spare places count too). A statement '..UptoSaid' is the law's where the arguments, and the package variables that the reading takes, are together of bulk at most 1048576: NARROWER than '..Said'. Prove '..Said' where nothing that the law and all that it calls make is longer than what came in: it says more and counts as full. Else prove '..UptoSaid'. A law counts once. -/
mutual
def uptoBulk {H : Type} : DataW H → Nat
  | .lit (.string bytes) => bytes.length + 1
  | .lit _ => 1
  | .nil => 1
  | .ptr d => uptoBulk d + 1
  | .slice elems spare => uptoBulkAll elems + uptoBulkAll spare + 1
  | .agg parts => uptoBulkAll parts + 1
  | .iface _ d => uptoBulk d + 1
  | .map entries => uptoBulkEntries entries + 1
  | .held _ => 1
def uptoBulkAll {H : Type} : List (DataW H) → Nat
  | [] => 0
  | d :: r => uptoBulk d + uptoBulkAll r
def uptoBulkEntries {H : Type} : List (Lit × DataW H) → Nat
  | [] => 0
  | x :: r => uptoBulkEntry x + uptoBulkEntries r
def uptoBulkEntry {H : Type} : Lit × DataW H → Nat
  | (.string bytes, d) => bytes.length + uptoBulk d + 1
  | (_, d) => uptoBulk d + 1
 end
def uptoSmall : (H : Type) → List (DataW H) → Bool := fun _ ds => decide (uptoBulkAll ds ≤ 1048576)
def OpenSpec.upto (s : _root_.Go.ChangeSpec) : _root_.Go.OpenSpec := { _root_.Go.OpenSpec.ofChange s with cond := some uptoSmall }

/-- 'meterworkslaw09.ZoneLosses', WHERE WHAT IT READS IS OF BULK AT MOST 1048576: true; the input reads as it did. -/
def zoneLossesUptoRow : OpenClaim := { program := "ytipnaeijbbbdoaa", sum := "2ee52c56dcd635b22c115afaf5bc045553e29869e0bfd7c2fdee840536abd449", func := "meterworks/meterworkslaw09.ZoneLosses", spec := "zoneLosses", unfollowed := true, recurses := true, apart := false, narrowed := true }
def ZoneLossesUptoSaid : Prop := zoneLossesUptoRow.holds Try.pinned (OpenSpec.upto zoneLossesSpec)

/-- 'meterworkslaw09.ZoneLeaks', WHERE WHAT IT READS IS OF BULK AT MOST 1048576: true; the input reads as it did. -/
def zoneLeaksUptoRow : OpenClaim := { program := "ytipnaeijbbbdoaa", sum := "2ee52c56dcd635b22c115afaf5bc045553e29869e0bfd7c2fdee840536abd449", func := "meterworks/meterworkslaw09.ZoneLeaks", spec := "zoneLeaks", unfollowed := true, recurses := true, apart := false, narrowed := true }
def ZoneLeaksUptoSaid : Prop := zoneLeaksUptoRow.holds Try.pinned (OpenSpec.upto zoneLeaksSpec)

/-- 'meterworkslaw09.ZoneTrue', WHERE WHAT IT READS IS OF BULK AT MOST 1048576: true; the input reads as it did. -/
def zoneTrueUptoRow : OpenClaim := { program := "ytipnaeijbbbdoaa", sum := "2ee52c56dcd635b22c115afaf5bc045553e29869e0bfd7c2fdee840536abd449", func := "meterworks/meterworkslaw09.ZoneTrue", spec := "zoneTrue", unfollowed := true, recurses := true, apart := false, narrowed := true }
def ZoneTrueUptoSaid : Prop := zoneTrueUptoRow.holds Try.pinned (OpenSpec.upto zoneTrueSpec)

/-- 'meterworkslaw09.ZoneEnds', WHERE WHAT IT READS IS OF BULK AT MOST 1048576: true; the input reads as it did. -/
def zoneEndsUptoRow : OpenClaim := { program := "ytipnaeijbbbdoaa", sum := "2ee52c56dcd635b22c115afaf5bc045553e29869e0bfd7c2fdee840536abd449", func := "meterworks/meterworkslaw09.ZoneEnds", spec := "zoneEnds", unfollowed := true, recurses := true, apart := false, narrowed := true }
def ZoneEndsUptoSaid : Prop := zoneEndsUptoRow.holds Try.pinned (OpenSpec.upto zoneEndsSpec)

/-- 'meterworkslaw09.ZoneSums', WHERE WHAT IT READS IS OF BULK AT MOST 1048576: true; the input reads as it did. -/
def zoneSumsUptoRow : OpenClaim := { program := "ytipnaeijbbbdoaa", sum := "2ee52c56dcd635b22c115afaf5bc045553e29869e0bfd7c2fdee840536abd449", func := "meterworks/meterworkslaw09.ZoneSums", spec := "zoneSums", unfollowed := true, recurses := true, apart := false, narrowed := true }
def ZoneSumsUptoSaid : Prop := zoneSumsUptoRow.holds Try.pinned (OpenSpec.upto zoneSumsSpec)

/-- 'meterworkslaw09.ZoneMore', WHERE WHAT IT READS IS OF BULK AT MOST 1048576: true; the input reads as it did. -/
def zoneMoreUptoRow : OpenClaim := { program := "ytipnaeijbbbdoaa", sum := "2ee52c56dcd635b22c115afaf5bc045553e29869e0bfd7c2fdee840536abd449", func := "meterworks/meterworkslaw09.ZoneMore", spec := "zoneMore", unfollowed := true, recurses := true, apart := false, narrowed := true }
def ZoneMoreUptoSaid : Prop := zoneMoreUptoRow.holds Try.pinned (OpenSpec.upto zoneMoreSpec)

/-- 'meterworkslaw09.ZoneFirst', WHERE WHAT IT READS IS OF BULK AT MOST 1048576: true; the input reads as it did. -/
def zoneFirstUptoRow : OpenClaim := { program := "ytipnaeijbbbdoaa", sum := "2ee52c56dcd635b22c115afaf5bc045553e29869e0bfd7c2fdee840536abd449", func := "meterworks/meterworkslaw09.ZoneFirst", spec := "zoneFirst", unfollowed := true, recurses := true, apart := false, narrowed := true }
def ZoneFirstUptoSaid : Prop := zoneFirstUptoRow.holds Try.pinned (OpenSpec.upto zoneFirstSpec)

end Rows
end Go.Proofs.Ytipnaeijbbbdoaa
