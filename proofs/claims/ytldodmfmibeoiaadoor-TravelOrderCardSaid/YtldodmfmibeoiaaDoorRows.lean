/-
  NARROWER THAN 'FOR EVERY INPUT', by the rows' own cells (each row's printed sentence says how): TravelFits: laid · TravelSpans: laid · TravelClashes: laid · TravelTrue: laid · TravelEnds: laid · TravelProof: laid · TravelMore: laid · TravelOrder: laid.
  DERIVED. THE GIVEN ROWS OF THIS SEAT. 8 by the template 'for every input the law returns true; each argument reads behind the call as it read before'; 0 by the template 'total and deterministic' (their statements: YtldodmfmibeoiaaDoorTotals.lean).
  GIVEN WITH THE SEED: the statements are not yours to turn. If you find one false, say at which input.
  Laid BY PROGRAM, IN A SANDBOX (cutbox-rows.mjs): the forced cells as the released guide's own fill.sh prints them over the translation c3e10b0f485ffbc0… (all of the seat's roots in one cut). By AI agents, Wed Nov 11 2026. No macro, syntax, notation, axiom, sorry.
-/
import Derived.Test.YtldodmfmibeoiaaDoorChecked
import GoSem.Claim
import GoSem.ClaimJoined
import GoSem.ClaimMapViews
import Derived.JoinedTies
import Derived.KernelRfl
namespace Go.Proofs.YtldodmfmibeoiaaDoor
/- THE CELL 'sum', in the pinned program and in every row, IS THE sha256 OF THE DUMP (.gsa) THAT YtldodmfmibeoiaaDoorProg.lean LOADS. Nothing in Lean hashes anything: it is a label: what it is worth is what the hold of that sum in a sandbox is worth. -/
noncomputable def Tryd.pinned : Pinned := { name := "ytldodmfmibeoiaadoor", sum := "c3e10b0f485ffbc07aa13024a594b686492c32da389bdff8f334fc1845260ba7", checked := Tryd.checked }
namespace Rows
def none {H : Type} : Left H := { results := [], args := [] }

/- WHAT THE LISTED PACKAGE-LEVEL VARIABLES READ AS WHEN THE CALL BEGINS. Each datum BY PROGRAM (the guide's laid-datum.mjs) off the statement by which the dump's own 'gosem.cut.vars' lays the variable. In a bare row this is a premise. The card (YtldodmfmibeoiaaDoorCards.lean) ties it to the program's text. -/
def laid_math_bits_deBruijn32tab {H : Type} : DataW H := .agg [.lit (.int .u8 0), .lit (.int .u8 1), .lit (.int .u8 28), .lit (.int .u8 2), .lit (.int .u8 29), .lit (.int .u8 14), .lit (.int .u8 24), .lit (.int .u8 3), .lit (.int .u8 30), .lit (.int .u8 22), .lit (.int .u8 20), .lit (.int .u8 15), .lit (.int .u8 25), .lit (.int .u8 17), .lit (.int .u8 4), .lit (.int .u8 8), .lit (.int .u8 31), .lit (.int .u8 27), .lit (.int .u8 13), .lit (.int .u8 23), .lit (.int .u8 21), .lit (.int .u8 19), .lit (.int .u8 16), .lit (.int .u8 7), .lit (.int .u8 26), .lit (.int .u8 12), .lit (.int .u8 18), .lit (.int .u8 6), .lit (.int .u8 11), .lit (.int .u8 5), .lit (.int .u8 10), .lit (.int .u8 9)]
def laid_math_bits_deBruijn64tab {H : Type} : DataW H := .agg [.lit (.int .u8 0), .lit (.int .u8 1), .lit (.int .u8 56), .lit (.int .u8 2), .lit (.int .u8 57), .lit (.int .u8 49), .lit (.int .u8 28), .lit (.int .u8 3), .lit (.int .u8 61), .lit (.int .u8 58), .lit (.int .u8 42), .lit (.int .u8 50), .lit (.int .u8 38), .lit (.int .u8 29), .lit (.int .u8 17), .lit (.int .u8 4), .lit (.int .u8 62), .lit (.int .u8 47), .lit (.int .u8 59), .lit (.int .u8 36), .lit (.int .u8 45), .lit (.int .u8 43), .lit (.int .u8 51), .lit (.int .u8 22), .lit (.int .u8 53), .lit (.int .u8 39), .lit (.int .u8 33), .lit (.int .u8 30), .lit (.int .u8 24), .lit (.int .u8 18), .lit (.int .u8 12), .lit (.int .u8 5), .lit (.int .u8 63), .lit (.int .u8 55), .lit (.int .u8 48), .lit (.int .u8 27), .lit (.int .u8 60), .lit (.int .u8 41), .lit (.int .u8 37), .lit (.int .u8 16), .lit (.int .u8 46), .lit (.int .u8 35), .lit (.int .u8 44), .lit (.int .u8 21), .lit (.int .u8 52), .lit (.int .u8 32), .lit (.int .u8 23), .lit (.int .u8 11), .lit (.int .u8 54), .lit (.int .u8 26), .lit (.int .u8 40), .lit (.int .u8 15), .lit (.int .u8 34), .lit (.int .u8 20), .lit (.int .u8 31), .lit (.int .u8 10), .lit (.int .u8 25), .lit (.int .u8 14), .lit (.int .u8 19), .lit (.int .u8 9), .lit (.int .u8 13), .lit (.int .u8 8), .lit (.int .u8 7), .lit (.int .u8 6)]

/-- 'meterworkslaw05.TravelFits': WHATEVER THE INPUT: true; the input reads as it did. -/
def travelFitsSpec : ChangeSpec := { name := "travelFits", fn := fun _ => fun
  | [d1, d2] => { results := [.lit (.bool true)], args := [d1, d2] }
  | _ => none }
def travelFitsRow : OpenClaim := { program := "ytldodmfmibeoiaadoor", sum := "c3e10b0f485ffbc07aa13024a594b686492c32da389bdff8f334fc1845260ba7", func := "meterworks/meterworkslaw05.TravelFits", spec := "travelFits", unfollowed := true, recurses := true, named := ["math/bits.deBruijn32tab", "math/bits.deBruijn64tab"], apart := false, laid := [("math/bits.deBruijn32tab", laid_math_bits_deBruijn32tab), ("math/bits.deBruijn64tab", laid_math_bits_deBruijn64tab)] }
def TravelFitsSaid : Prop := travelFitsRow.holds Tryd.pinned (OpenSpec.ofChange travelFitsSpec)

/-- ITS FALSE NEIGHBOUR: 'it returns false'. Refute it at one input. -/
def travelFitsWrong : ChangeSpec := { name := "travelFits", fn := fun _ => fun
  | [d1, d2] => { results := [.lit (.bool false)], args := [d1, d2] }
  | _ => none }
def TravelFitsWrongFalsely : Prop := travelFitsRow.holds Tryd.pinned (OpenSpec.ofChange travelFitsWrong)

/-- 'meterworkslaw05.TravelSpans': WHATEVER THE INPUT: true; the input reads as it did. -/
def travelSpansSpec : ChangeSpec := { name := "travelSpans", fn := fun _ => fun
  | [d1, d2, d3, d4] => { results := [.lit (.bool true)], args := [d1, d2, d3, d4] }
  | _ => none }
def travelSpansRow : OpenClaim := { program := "ytldodmfmibeoiaadoor", sum := "c3e10b0f485ffbc07aa13024a594b686492c32da389bdff8f334fc1845260ba7", func := "meterworks/meterworkslaw05.TravelSpans", spec := "travelSpans", unfollowed := true, recurses := true, named := ["math/bits.deBruijn32tab", "math/bits.deBruijn64tab"], apart := false, laid := [("math/bits.deBruijn32tab", laid_math_bits_deBruijn32tab), ("math/bits.deBruijn64tab", laid_math_bits_deBruijn64tab)] }
def TravelSpansSaid : Prop := travelSpansRow.holds Tryd.pinned (OpenSpec.ofChange travelSpansSpec)

/-- ITS FALSE NEIGHBOUR: 'it returns false'. Refute it at one input. -/
def travelSpansWrong : ChangeSpec := { name := "travelSpans", fn := fun _ => fun
  | [d1, d2, d3, d4] => { results := [.lit (.bool false)], args := [d1, d2, d3, d4] }
  | _ => none }
def TravelSpansWrongFalsely : Prop := travelSpansRow.holds Tryd.pinned (OpenSpec.ofChange travelSpansWrong)

/-- 'meterworkslaw05.TravelClashes': WHATEVER THE INPUT: true; the input reads as it did. -/
def travelClashesSpec : ChangeSpec := { name := "travelClashes", fn := fun _ => fun
  | [d1, d2] => { results := [.lit (.bool true)], args := [d1, d2] }
  | _ => none }
def travelClashesRow : OpenClaim := { program := "ytldodmfmibeoiaadoor", sum := "c3e10b0f485ffbc07aa13024a594b686492c32da389bdff8f334fc1845260ba7", func := "meterworks/meterworkslaw05.TravelClashes", spec := "travelClashes", unfollowed := true, recurses := true, named := ["math/bits.deBruijn32tab", "math/bits.deBruijn64tab"], apart := false, laid := [("math/bits.deBruijn32tab", laid_math_bits_deBruijn32tab), ("math/bits.deBruijn64tab", laid_math_bits_deBruijn64tab)] }
def TravelClashesSaid : Prop := travelClashesRow.holds Tryd.pinned (OpenSpec.ofChange travelClashesSpec)

/-- ITS FALSE NEIGHBOUR: 'it returns false'. Refute it at one input. -/
def travelClashesWrong : ChangeSpec := { name := "travelClashes", fn := fun _ => fun
  | [d1, d2] => { results := [.lit (.bool false)], args := [d1, d2] }
  | _ => none }
def TravelClashesWrongFalsely : Prop := travelClashesRow.holds Tryd.pinned (OpenSpec.ofChange travelClashesWrong)

/-- 'meterworkslaw05.TravelTrue': WHATEVER THE INPUT: true; the input reads as it did. -/
def travelTrueSpec : ChangeSpec := { name := "travelTrue", fn := fun _ => fun
  | [d1, d2, d3, d4, d5] => { results := [.lit (.bool true)], args := [d1, d2, d3, d4, d5] }
  | _ => none }
def travelTrueRow : OpenClaim := { program := "ytldodmfmibeoiaadoor", sum := "c3e10b0f485ffbc07aa13024a594b686492c32da389bdff8f334fc1845260ba7", func := "meterworks/meterworkslaw05.TravelTrue", spec := "travelTrue", unfollowed := true, recurses := true, named := ["math/bits.deBruijn32tab", "math/bits.deBruijn64tab"], apart := false, laid := [("math/bits.deBruijn32tab", laid_math_bits_deBruijn32tab), ("math/bits.deBruijn64tab", laid_math_bits_deBruijn64tab)] }
def TravelTrueSaid : Prop := travelTrueRow.holds Tryd.pinned (OpenSpec.ofChange travelTrueSpec)

/-- ITS FALSE NEIGHBOUR: 'it returns false'. Refute it at one input. -/
def travelTrueWrong : ChangeSpec := { name := "travelTrue", fn := fun _ => fun
  | [d1, d2, d3, d4, d5] => { results := [.lit (.bool false)], args := [d1, d2, d3, d4, d5] }
  | _ => none }
def TravelTrueWrongFalsely : Prop := travelTrueRow.holds Tryd.pinned (OpenSpec.ofChange travelTrueWrong)

/-- 'meterworkslaw05.TravelEnds': WHATEVER THE INPUT: true; the input reads as it did. -/
def travelEndsSpec : ChangeSpec := { name := "travelEnds", fn := fun _ => fun
  | [d1, d2, d3] => { results := [.lit (.bool true)], args := [d1, d2, d3] }
  | _ => none }
def travelEndsRow : OpenClaim := { program := "ytldodmfmibeoiaadoor", sum := "c3e10b0f485ffbc07aa13024a594b686492c32da389bdff8f334fc1845260ba7", func := "meterworks/meterworkslaw05.TravelEnds", spec := "travelEnds", unfollowed := true, recurses := true, named := ["math/bits.deBruijn32tab", "math/bits.deBruijn64tab"], apart := false, laid := [("math/bits.deBruijn32tab", laid_math_bits_deBruijn32tab), ("math/bits.deBruijn64tab", laid_math_bits_deBruijn64tab)] }
def TravelEndsSaid : Prop := travelEndsRow.holds Tryd.pinned (OpenSpec.ofChange travelEndsSpec)

/-- ITS FALSE NEIGHBOUR: 'it returns false'. Refute it at one input. -/
def travelEndsWrong : ChangeSpec := { name := "travelEnds", fn := fun _ => fun
  | [d1, d2, d3] => { results := [.lit (.bool false)], args := [d1, d2, d3] }
  | _ => none }
def TravelEndsWrongFalsely : Prop := travelEndsRow.holds Tryd.pinned (OpenSpec.ofChange travelEndsWrong)

/-- 'meterworkslaw05.TravelProof': WHATEVER THE INPUT: true; the input reads as it did. -/
def travelProofSpec : ChangeSpec := { name := "travelProof", fn := fun _ => fun
  | [d1, d2, d3] => { results := [.lit (.bool true)], args := [d1, d2, d3] }
  | _ => none }
def travelProofRow : OpenClaim := { program := "ytldodmfmibeoiaadoor", sum := "c3e10b0f485ffbc07aa13024a594b686492c32da389bdff8f334fc1845260ba7", func := "meterworks/meterworkslaw05.TravelProof", spec := "travelProof", unfollowed := true, recurses := true, named := ["math/bits.deBruijn32tab", "math/bits.deBruijn64tab"], apart := false, laid := [("math/bits.deBruijn32tab", laid_math_bits_deBruijn32tab), ("math/bits.deBruijn64tab", laid_math_bits_deBruijn64tab)] }
def TravelProofSaid : Prop := travelProofRow.holds Tryd.pinned (OpenSpec.ofChange travelProofSpec)

/-- ITS FALSE NEIGHBOUR: 'it returns false'. Refute it at one input. -/
def travelProofWrong : ChangeSpec := { name := "travelProof", fn := fun _ => fun
  | [d1, d2, d3] => { results := [.lit (.bool false)], args := [d1, d2, d3] }
  | _ => none }
def TravelProofWrongFalsely : Prop := travelProofRow.holds Tryd.pinned (OpenSpec.ofChange travelProofWrong)

/-- 'meterworkslaw05.TravelMore': WHATEVER THE INPUT: true; the input reads as it did. -/
def travelMoreSpec : ChangeSpec := { name := "travelMore", fn := fun _ => fun
  | [d1, d2, d3, d4, d5, d6] => { results := [.lit (.bool true)], args := [d1, d2, d3, d4, d5, d6] }
  | _ => none }
def travelMoreRow : OpenClaim := { program := "ytldodmfmibeoiaadoor", sum := "c3e10b0f485ffbc07aa13024a594b686492c32da389bdff8f334fc1845260ba7", func := "meterworks/meterworkslaw05.TravelMore", spec := "travelMore", unfollowed := true, recurses := true, named := ["math/bits.deBruijn32tab", "math/bits.deBruijn64tab"], apart := false, laid := [("math/bits.deBruijn32tab", laid_math_bits_deBruijn32tab), ("math/bits.deBruijn64tab", laid_math_bits_deBruijn64tab)] }
def TravelMoreSaid : Prop := travelMoreRow.holds Tryd.pinned (OpenSpec.ofChange travelMoreSpec)

/-- ITS FALSE NEIGHBOUR: 'it returns false'. Refute it at one input. -/
def travelMoreWrong : ChangeSpec := { name := "travelMore", fn := fun _ => fun
  | [d1, d2, d3, d4, d5, d6] => { results := [.lit (.bool false)], args := [d1, d2, d3, d4, d5, d6] }
  | _ => none }
def TravelMoreWrongFalsely : Prop := travelMoreRow.holds Tryd.pinned (OpenSpec.ofChange travelMoreWrong)

/-- 'meterworkslaw05.TravelOrder': WHATEVER THE INPUT: true; the input reads as it did. -/
def travelOrderSpec : ChangeSpec := { name := "travelOrder", fn := fun _ => fun
  | [d1, d2, d3, d4, d5] => { results := [.lit (.bool true)], args := [d1, d2, d3, d4, d5] }
  | _ => none }
def travelOrderRow : OpenClaim := { program := "ytldodmfmibeoiaadoor", sum := "c3e10b0f485ffbc07aa13024a594b686492c32da389bdff8f334fc1845260ba7", func := "meterworks/meterworkslaw05.TravelOrder", spec := "travelOrder", unfollowed := true, recurses := true, named := ["math/bits.deBruijn32tab", "math/bits.deBruijn64tab"], apart := false, laid := [("math/bits.deBruijn32tab", laid_math_bits_deBruijn32tab), ("math/bits.deBruijn64tab", laid_math_bits_deBruijn64tab)] }
def TravelOrderSaid : Prop := travelOrderRow.holds Tryd.pinned (OpenSpec.ofChange travelOrderSpec)

/-- ITS FALSE NEIGHBOUR: 'it returns false'. Refute it at one input. -/
def travelOrderWrong : ChangeSpec := { name := "travelOrder", fn := fun _ => fun
  | [d1, d2, d3, d4, d5] => { results := [.lit (.bool false)], args := [d1, d2, d3, d4, d5] }
  | _ => none }
def TravelOrderWrongFalsely : Prop := travelOrderRow.holds Tryd.pinned (OpenSpec.ofChange travelOrderWrong)

/- THE SECOND FORM. 'bulk': how many values and letters a reading holds, each counted each time it is reached (what is shared counts as often as it is met; a slice's spare places count too). A statement '..UptoSaid' is the law's where the arguments, and the package variables that the reading takes, are together of bulk at most 1048576: NARROWER than '..Said'. Prove '..Said' where nothing that the law and all that it calls make is longer than what came in: it says more and counts as full. Else prove '..UptoSaid'. A law counts once. -/
mutual
def uptoBulk {H : Type} : DataW H → Nat
  | .lit (.string bytes) => bytes.length + 1
  | .lit _ => 1
  | .nil => 1
  | .ptr d => uptoBulk d + 1
  | .slice elems spare => uptoBulkAll elems + uptoBulkAll spare + 1
  | .agg parts => uptoBulkAll parts + 1
  | .iface _ d => uptoBulk d + 1
  | .map entries => uptoBulkEntries entries + 1
  | .held _ => 1
def uptoBulkAll {H : Type} : List (DataW H) → Nat
  | [] => 0
  | d :: r => uptoBulk d + uptoBulkAll r
def uptoBulkEntries {H : Type} : List (Lit × DataW H) → Nat
  | [] => 0
  | x :: r => uptoBulkEntry x + uptoBulkEntries r
def uptoBulkEntry {H : Type} : Lit × DataW H → Nat
  | (.string bytes, d) => bytes.length + uptoBulk d + 1
  | (_, d) => uptoBulk d + 1
 end
def uptoSmall : (H : Type) → List (DataW H) → Bool := fun _ ds => decide (uptoBulkAll ds ≤ 1048576)
def OpenSpec.upto (s : _root_.Go.ChangeSpec) : _root_.Go.OpenSpec := { _root_.Go.OpenSpec.ofChange s with cond := some uptoSmall }

/-- 'meterworkslaw05.TravelFits', WHERE WHAT IT READS IS OF BULK AT MOST 1048576: true; the input reads as it did. -/
def travelFitsUptoRow : OpenClaim := { program := "ytldodmfmibeoiaadoor", sum := "c3e10b0f485ffbc07aa13024a594b686492c32da389bdff8f334fc1845260ba7", func := "meterworks/meterworkslaw05.TravelFits", spec := "travelFits", unfollowed := true, recurses := true, named := ["math/bits.deBruijn32tab", "math/bits.deBruijn64tab"], apart := false, laid := [("math/bits.deBruijn32tab", laid_math_bits_deBruijn32tab), ("math/bits.deBruijn64tab", laid_math_bits_deBruijn64tab)], narrowed := true }
def TravelFitsUptoSaid : Prop := travelFitsUptoRow.holds Tryd.pinned (OpenSpec.upto travelFitsSpec)

/-- 'meterworkslaw05.TravelSpans', WHERE WHAT IT READS IS OF BULK AT MOST 1048576: true; the input reads as it did. -/
def travelSpansUptoRow : OpenClaim := { program := "ytldodmfmibeoiaadoor", sum := "c3e10b0f485ffbc07aa13024a594b686492c32da389bdff8f334fc1845260ba7", func := "meterworks/meterworkslaw05.TravelSpans", spec := "travelSpans", unfollowed := true, recurses := true, named := ["math/bits.deBruijn32tab", "math/bits.deBruijn64tab"], apart := false, laid := [("math/bits.deBruijn32tab", laid_math_bits_deBruijn32tab), ("math/bits.deBruijn64tab", laid_math_bits_deBruijn64tab)], narrowed := true }
def TravelSpansUptoSaid : Prop := travelSpansUptoRow.holds Tryd.pinned (OpenSpec.upto travelSpansSpec)

/-- 'meterworkslaw05.TravelClashes', WHERE WHAT IT READS IS OF BULK AT MOST 1048576: true; the input reads as it did. -/
def travelClashesUptoRow : OpenClaim := { program := "ytldodmfmibeoiaadoor", sum := "c3e10b0f485ffbc07aa13024a594b686492c32da389bdff8f334fc1845260ba7", func := "meterworks/meterworkslaw05.TravelClashes", spec := "travelClashes", unfollowed := true, recurses := true, named := ["math/bits.deBruijn32tab", "math/bits.deBruijn64tab"], apart := false, laid := [("math/bits.deBruijn32tab", laid_math_bits_deBruijn32tab), ("math/bits.deBruijn64tab", laid_math_bits_deBruijn64tab)], narrowed := true }
def TravelClashesUptoSaid : Prop := travelClashesUptoRow.holds Tryd.pinned (OpenSpec.upto travelClashesSpec)

/-- 'meterworkslaw05.TravelTrue', WHERE WHAT IT READS IS OF BULK AT MOST 1048576: true; the input reads as it did. -/
def travelTrueUptoRow : OpenClaim := { program := "ytldodmfmibeoiaadoor", sum := "c3e10b0f485ffbc07aa13024a594b686492c32da389bdff8f334fc1845260ba7", func := "meterworks/meterworkslaw05.TravelTrue", spec := "travelTrue", unfollowed := true, recurses := true, named := ["math/bits.deBruijn32tab", "math/bits.deBruijn64tab"], apart := false, laid := [("math/bits.deBruijn32tab", laid_math_bits_deBruijn32tab), ("math/bits.deBruijn64tab", laid_math_bits_deBruijn64tab)], narrowed := true }
def TravelTrueUptoSaid : Prop := travelTrueUptoRow.holds Tryd.pinned (OpenSpec.upto travelTrueSpec)

/-- 'meterworkslaw05.TravelEnds', WHERE WHAT IT READS IS OF BULK AT MOST 1048576: true; the input reads as it did. -/
def travelEndsUptoRow : OpenClaim := { program := "ytldodmfmibeoiaadoor", sum := "c3e10b0f485ffbc07aa13024a594b686492c32da389bdff8f334fc1845260ba7", func := "meterworks/meterworkslaw05.TravelEnds", spec := "travelEnds", unfollowed := true, recurses := true, named := ["math/bits.deBruijn32tab", "math/bits.deBruijn64tab"], apart := false, laid := [("math/bits.deBruijn32tab", laid_math_bits_deBruijn32tab), ("math/bits.deBruijn64tab", laid_math_bits_deBruijn64tab)], narrowed := true }
def TravelEndsUptoSaid : Prop := travelEndsUptoRow.holds Tryd.pinned (OpenSpec.upto travelEndsSpec)

/-- 'meterworkslaw05.TravelProof', WHERE WHAT IT READS IS OF BULK AT MOST 1048576: true; the input reads as it did. -/
def travelProofUptoRow : OpenClaim := { program := "ytldodmfmibeoiaadoor", sum := "c3e10b0f485ffbc07aa13024a594b686492c32da389bdff8f334fc1845260ba7", func := "meterworks/meterworkslaw05.TravelProof", spec := "travelProof", unfollowed := true, recurses := true, named := ["math/bits.deBruijn32tab", "math/bits.deBruijn64tab"], apart := false, laid := [("math/bits.deBruijn32tab", laid_math_bits_deBruijn32tab), ("math/bits.deBruijn64tab", laid_math_bits_deBruijn64tab)], narrowed := true }
def TravelProofUptoSaid : Prop := travelProofUptoRow.holds Tryd.pinned (OpenSpec.upto travelProofSpec)

/-- 'meterworkslaw05.TravelMore', WHERE WHAT IT READS IS OF BULK AT MOST 1048576: true; the input reads as it did. -/
def travelMoreUptoRow : OpenClaim := { program := "ytldodmfmibeoiaadoor", sum := "c3e10b0f485ffbc07aa13024a594b686492c32da389bdff8f334fc1845260ba7", func := "meterworks/meterworkslaw05.TravelMore", spec := "travelMore", unfollowed := true, recurses := true, named := ["math/bits.deBruijn32tab", "math/bits.deBruijn64tab"], apart := false, laid := [("math/bits.deBruijn32tab", laid_math_bits_deBruijn32tab), ("math/bits.deBruijn64tab", laid_math_bits_deBruijn64tab)], narrowed := true }
def TravelMoreUptoSaid : Prop := travelMoreUptoRow.holds Tryd.pinned (OpenSpec.upto travelMoreSpec)

/-- 'meterworkslaw05.TravelOrder', WHERE WHAT IT READS IS OF BULK AT MOST 1048576: true; the input reads as it did. -/
def travelOrderUptoRow : OpenClaim := { program := "ytldodmfmibeoiaadoor", sum := "c3e10b0f485ffbc07aa13024a594b686492c32da389bdff8f334fc1845260ba7", func := "meterworks/meterworkslaw05.TravelOrder", spec := "travelOrder", unfollowed := true, recurses := true, named := ["math/bits.deBruijn32tab", "math/bits.deBruijn64tab"], apart := false, laid := [("math/bits.deBruijn32tab", laid_math_bits_deBruijn32tab), ("math/bits.deBruijn64tab", laid_math_bits_deBruijn64tab)], narrowed := true }
def TravelOrderUptoSaid : Prop := travelOrderUptoRow.holds Tryd.pinned (OpenSpec.upto travelOrderSpec)

end Rows
end Go.Proofs.YtldodmfmibeoiaaDoor
