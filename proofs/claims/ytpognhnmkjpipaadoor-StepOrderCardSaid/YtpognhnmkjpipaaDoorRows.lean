/-
  NARROWER THAN 'FOR EVERY INPUT', by the rows' own cells (each row's printed sentence says how): StepSuspects: laid · StepLeaks: laid · StepTrue: laid · StepEnds: laid · StepMore: laid · StepOrder: laid · StepNext: laid.
  DERIVED. THE GIVEN ROWS OF THIS SEAT. 7 by the template 'for every input the law returns true; each argument reads behind the call as it read before'; 0 by the template 'total and deterministic' (their statements: YtpognhnmkjpipaaDoorTotals.lean).
  GIVEN WITH THE SEED: the statements are not yours to turn. If you find one false, say at which input.
  Laid BY PROGRAM, IN A SANDBOX (cutbox-rows.mjs): the forced cells as the released guide's own fill.sh prints them over the translation 12279da8c09391dc… (all of the seat's roots in one cut). By AI agents, Wed Nov 11 2026. No macro, syntax, notation, axiom, sorry.
-/
import Derived.Test.YtpognhnmkjpipaaDoorChecked
import GoSem.Claim
import GoSem.ClaimJoined
import GoSem.ClaimMapViews
import Derived.JoinedTies
import Derived.KernelRfl
namespace Go.Proofs.YtpognhnmkjpipaaDoor
/- THE CELL 'sum', in the pinned program and in every row, IS THE sha256 OF THE DUMP (.gsa) THAT YtpognhnmkjpipaaDoorProg.lean LOADS. Nothing in Lean hashes anything: it is a label: what it is worth is what the hold of that sum in a sandbox is worth. -/
noncomputable def Tryd.pinned : Pinned := { name := "ytpognhnmkjpipaadoor", sum := "12279da8c09391dcbe03f8325d31669ad436a4fdd0f1703c4bdb51198d931646", checked := Tryd.checked }
namespace Rows
def none {H : Type} : Left H := { results := [], args := [] }

/- WHAT THE LISTED PACKAGE-LEVEL VARIABLES READ AS WHEN THE CALL BEGINS. Each datum BY PROGRAM (the guide's laid-datum.mjs) off the statement by which the dump's own 'gosem.cut.vars' lays the variable. In a bare row this is a premise. The card (YtpognhnmkjpipaaDoorCards.lean) ties it to the program's text. -/
def laid_math_bits_deBruijn32tab {H : Type} : DataW H := .agg [.lit (.int .u8 0), .lit (.int .u8 1), .lit (.int .u8 28), .lit (.int .u8 2), .lit (.int .u8 29), .lit (.int .u8 14), .lit (.int .u8 24), .lit (.int .u8 3), .lit (.int .u8 30), .lit (.int .u8 22), .lit (.int .u8 20), .lit (.int .u8 15), .lit (.int .u8 25), .lit (.int .u8 17), .lit (.int .u8 4), .lit (.int .u8 8), .lit (.int .u8 31), .lit (.int .u8 27), .lit (.int .u8 13), .lit (.int .u8 23), .lit (.int .u8 21), .lit (.int .u8 19), .lit (.int .u8 16), .lit (.int .u8 7), .lit (.int .u8 26), .lit (.int .u8 12), .lit (.int .u8 18), .lit (.int .u8 6), .lit (.int .u8 11), .lit (.int .u8 5), .lit (.int .u8 10), .lit (.int .u8 9)]
def laid_math_bits_deBruijn64tab {H : Type} : DataW H := .agg [.lit (.int .u8 0), .lit (.int .u8 1), .lit (.int .u8 56), .lit (.int .u8 2), .lit (.int .u8 57), .lit (.int .u8 49), .lit (.int .u8 28), .lit (.int .u8 3), .lit (.int .u8 61), .lit (.int .u8 58), .lit (.int .u8 42), .lit (.int .u8 50), .lit (.int .u8 38), .lit (.int .u8 29), .lit (.int .u8 17), .lit (.int .u8 4), .lit (.int .u8 62), .lit (.int .u8 47), .lit (.int .u8 59), .lit (.int .u8 36), .lit (.int .u8 45), .lit (.int .u8 43), .lit (.int .u8 51), .lit (.int .u8 22), .lit (.int .u8 53), .lit (.int .u8 39), .lit (.int .u8 33), .lit (.int .u8 30), .lit (.int .u8 24), .lit (.int .u8 18), .lit (.int .u8 12), .lit (.int .u8 5), .lit (.int .u8 63), .lit (.int .u8 55), .lit (.int .u8 48), .lit (.int .u8 27), .lit (.int .u8 60), .lit (.int .u8 41), .lit (.int .u8 37), .lit (.int .u8 16), .lit (.int .u8 46), .lit (.int .u8 35), .lit (.int .u8 44), .lit (.int .u8 21), .lit (.int .u8 52), .lit (.int .u8 32), .lit (.int .u8 23), .lit (.int .u8 11), .lit (.int .u8 54), .lit (.int .u8 26), .lit (.int .u8 40), .lit (.int .u8 15), .lit (.int .u8 34), .lit (.int .u8 20), .lit (.int .u8 31), .lit (.int .u8 10), .lit (.int .u8 25), .lit (.int .u8 14), .lit (.int .u8 19), .lit (.int .u8 9), .lit (.int .u8 13), .lit (.int .u8 8), .lit (.int .u8 7), .lit (.int .u8 6)]

/-- 'meterworkslaw10.StepSuspects': WHATEVER THE INPUT: true; the input reads as it did. -/
def stepSuspectsSpec : ChangeSpec := { name := "stepSuspects", fn := fun _ => fun
  | [d1, d2] => { results := [.lit (.bool true)], args := [d1, d2] }
  | _ => none }
def stepSuspectsRow : OpenClaim := { program := "ytpognhnmkjpipaadoor", sum := "12279da8c09391dcbe03f8325d31669ad436a4fdd0f1703c4bdb51198d931646", func := "meterworks/meterworkslaw10.StepSuspects", spec := "stepSuspects", unfollowed := true, recurses := true, named := ["math/bits.deBruijn32tab", "math/bits.deBruijn64tab"], apart := false, laid := [("math/bits.deBruijn32tab", laid_math_bits_deBruijn32tab), ("math/bits.deBruijn64tab", laid_math_bits_deBruijn64tab)] }
def StepSuspectsSaid : Prop := stepSuspectsRow.holds Tryd.pinned (OpenSpec.ofChange stepSuspectsSpec)

/-- ITS FALSE NEIGHBOUR: 'it returns false'. Refute it at one input. -/
def stepSuspectsWrong : ChangeSpec := { name := "stepSuspects", fn := fun _ => fun
  | [d1, d2] => { results := [.lit (.bool false)], args := [d1, d2] }
  | _ => none }
def StepSuspectsWrongFalsely : Prop := stepSuspectsRow.holds Tryd.pinned (OpenSpec.ofChange stepSuspectsWrong)

/-- 'meterworkslaw10.StepLeaks': WHATEVER THE INPUT: true; the input reads as it did. -/
def stepLeaksSpec : ChangeSpec := { name := "stepLeaks", fn := fun _ => fun
  | [d1, d2] => { results := [.lit (.bool true)], args := [d1, d2] }
  | _ => none }
def stepLeaksRow : OpenClaim := { program := "ytpognhnmkjpipaadoor", sum := "12279da8c09391dcbe03f8325d31669ad436a4fdd0f1703c4bdb51198d931646", func := "meterworks/meterworkslaw10.StepLeaks", spec := "stepLeaks", unfollowed := true, recurses := true, named := ["math/bits.deBruijn32tab", "math/bits.deBruijn64tab"], apart := false, laid := [("math/bits.deBruijn32tab", laid_math_bits_deBruijn32tab), ("math/bits.deBruijn64tab", laid_math_bits_deBruijn64tab)] }
def StepLeaksSaid : Prop := stepLeaksRow.holds Tryd.pinned (OpenSpec.ofChange stepLeaksSpec)

/-- ITS FALSE NEIGHBOUR: 'it returns false'. Refute it at one input. -/
def stepLeaksWrong : ChangeSpec := { name := "stepLeaks", fn := fun _ => fun
  | [d1, d2] => { results := [.lit (.bool false)], args := [d1, d2] }
  | _ => none }
def StepLeaksWrongFalsely : Prop := stepLeaksRow.holds Tryd.pinned (OpenSpec.ofChange stepLeaksWrong)

/-- 'meterworkslaw10.StepTrue': WHATEVER THE INPUT: true; the input reads as it did. -/
def stepTrueSpec : ChangeSpec := { name := "stepTrue", fn := fun _ => fun
  | [d1, d2, d3] => { results := [.lit (.bool true)], args := [d1, d2, d3] }
  | _ => none }
def stepTrueRow : OpenClaim := { program := "ytpognhnmkjpipaadoor", sum := "12279da8c09391dcbe03f8325d31669ad436a4fdd0f1703c4bdb51198d931646", func := "meterworks/meterworkslaw10.StepTrue", spec := "stepTrue", unfollowed := true, recurses := true, named := ["math/bits.deBruijn32tab", "math/bits.deBruijn64tab"], apart := false, laid := [("math/bits.deBruijn32tab", laid_math_bits_deBruijn32tab), ("math/bits.deBruijn64tab", laid_math_bits_deBruijn64tab)] }
def StepTrueSaid : Prop := stepTrueRow.holds Tryd.pinned (OpenSpec.ofChange stepTrueSpec)

/-- ITS FALSE NEIGHBOUR: 'it returns false'. Refute it at one input. -/
def stepTrueWrong : ChangeSpec := { name := "stepTrue", fn := fun _ => fun
  | [d1, d2, d3] => { results := [.lit (.bool false)], args := [d1, d2, d3] }
  | _ => none }
def StepTrueWrongFalsely : Prop := stepTrueRow.holds Tryd.pinned (OpenSpec.ofChange stepTrueWrong)

/-- 'meterworkslaw10.StepEnds': WHATEVER THE INPUT: true; the input reads as it did. -/
def stepEndsSpec : ChangeSpec := { name := "stepEnds", fn := fun _ => fun
  | [d1, d2] => { results := [.lit (.bool true)], args := [d1, d2] }
  | _ => none }
def stepEndsRow : OpenClaim := { program := "ytpognhnmkjpipaadoor", sum := "12279da8c09391dcbe03f8325d31669ad436a4fdd0f1703c4bdb51198d931646", func := "meterworks/meterworkslaw10.StepEnds", spec := "stepEnds", unfollowed := true, recurses := true, named := ["math/bits.deBruijn32tab", "math/bits.deBruijn64tab"], apart := false, laid := [("math/bits.deBruijn32tab", laid_math_bits_deBruijn32tab), ("math/bits.deBruijn64tab", laid_math_bits_deBruijn64tab)] }
def StepEndsSaid : Prop := stepEndsRow.holds Tryd.pinned (OpenSpec.ofChange stepEndsSpec)

/-- ITS FALSE NEIGHBOUR: 'it returns false'. Refute it at one input. -/
def stepEndsWrong : ChangeSpec := { name := "stepEnds", fn := fun _ => fun
  | [d1, d2] => { results := [.lit (.bool false)], args := [d1, d2] }
  | _ => none }
def StepEndsWrongFalsely : Prop := stepEndsRow.holds Tryd.pinned (OpenSpec.ofChange stepEndsWrong)

/-- 'meterworkslaw10.StepMore': WHATEVER THE INPUT: true; the input reads as it did. -/
def stepMoreSpec : ChangeSpec := { name := "stepMore", fn := fun _ => fun
  | [d1, d2, d3] => { results := [.lit (.bool true)], args := [d1, d2, d3] }
  | _ => none }
def stepMoreRow : OpenClaim := { program := "ytpognhnmkjpipaadoor", sum := "12279da8c09391dcbe03f8325d31669ad436a4fdd0f1703c4bdb51198d931646", func := "meterworks/meterworkslaw10.StepMore", spec := "stepMore", unfollowed := true, recurses := true, named := ["math/bits.deBruijn32tab", "math/bits.deBruijn64tab"], apart := false, laid := [("math/bits.deBruijn32tab", laid_math_bits_deBruijn32tab), ("math/bits.deBruijn64tab", laid_math_bits_deBruijn64tab)] }
def StepMoreSaid : Prop := stepMoreRow.holds Tryd.pinned (OpenSpec.ofChange stepMoreSpec)

/-- ITS FALSE NEIGHBOUR: 'it returns false'. Refute it at one input. -/
def stepMoreWrong : ChangeSpec := { name := "stepMore", fn := fun _ => fun
  | [d1, d2, d3] => { results := [.lit (.bool false)], args := [d1, d2, d3] }
  | _ => none }
def StepMoreWrongFalsely : Prop := stepMoreRow.holds Tryd.pinned (OpenSpec.ofChange stepMoreWrong)

/-- 'meterworkslaw10.StepOrder': WHATEVER THE INPUT: true; the input reads as it did. -/
def stepOrderSpec : ChangeSpec := { name := "stepOrder", fn := fun _ => fun
  | [d1, d2, d3, d4] => { results := [.lit (.bool true)], args := [d1, d2, d3, d4] }
  | _ => none }
def stepOrderRow : OpenClaim := { program := "ytpognhnmkjpipaadoor", sum := "12279da8c09391dcbe03f8325d31669ad436a4fdd0f1703c4bdb51198d931646", func := "meterworks/meterworkslaw10.StepOrder", spec := "stepOrder", unfollowed := true, recurses := true, named := ["math/bits.deBruijn32tab", "math/bits.deBruijn64tab"], apart := false, laid := [("math/bits.deBruijn32tab", laid_math_bits_deBruijn32tab), ("math/bits.deBruijn64tab", laid_math_bits_deBruijn64tab)] }
def StepOrderSaid : Prop := stepOrderRow.holds Tryd.pinned (OpenSpec.ofChange stepOrderSpec)

/-- ITS FALSE NEIGHBOUR: 'it returns false'. Refute it at one input. -/
def stepOrderWrong : ChangeSpec := { name := "stepOrder", fn := fun _ => fun
  | [d1, d2, d3, d4] => { results := [.lit (.bool false)], args := [d1, d2, d3, d4] }
  | _ => none }
def StepOrderWrongFalsely : Prop := stepOrderRow.holds Tryd.pinned (OpenSpec.ofChange stepOrderWrong)

/-- 'meterworkslaw10.StepNext': WHATEVER THE INPUT: true; the input reads as it did. -/
def stepNextSpec : ChangeSpec := { name := "stepNext", fn := fun _ => fun
  | [d1, d2, d3] => { results := [.lit (.bool true)], args := [d1, d2, d3] }
  | _ => none }
def stepNextRow : OpenClaim := { program := "ytpognhnmkjpipaadoor", sum := "12279da8c09391dcbe03f8325d31669ad436a4fdd0f1703c4bdb51198d931646", func := "meterworks/meterworkslaw10.StepNext", spec := "stepNext", unfollowed := true, recurses := true, named := ["math/bits.deBruijn32tab", "math/bits.deBruijn64tab"], apart := false, laid := [("math/bits.deBruijn32tab", laid_math_bits_deBruijn32tab), ("math/bits.deBruijn64tab", laid_math_bits_deBruijn64tab)] }
def StepNextSaid : Prop := stepNextRow.holds Tryd.pinned (OpenSpec.ofChange stepNextSpec)

/-- ITS FALSE NEIGHBOUR: 'it returns false'. Refute it at one input. -/
def stepNextWrong : ChangeSpec := { name := "stepNext", fn := fun _ => fun
  | [d1, d2, d3] => { results := [.lit (.bool false)], args := [d1, d2, d3] }
  | _ => none }
def StepNextWrongFalsely : Prop := stepNextRow.holds Tryd.pinned (OpenSpec.ofChange stepNextWrong)

/- THE SECOND FORM. 'bulk': how many values and letters a reading holds, each counted each time it is reached (what is shared counts as often as it is met; a slice's spare places count too). A statement '..UptoSaid' is the law's where the arguments, and the package variables that the reading takes, are together of bulk at most 1048576: NARROWER than '..Said'. Prove '..Said' where nothing that the law and all that it calls make is longer than what came in: it says more and counts as full. Else prove '..UptoSaid'. A law counts once. -/
mutual
def uptoBulk {H : Type} : DataW H → Nat
  | .lit (.string bytes) => bytes.length + 1
  | .lit _ => 1
  | .nil => 1
  | .ptr d => uptoBulk d + 1
  | .slice elems spare => uptoBulkAll elems + uptoBulkAll spare + 1
  | .agg parts => uptoBulkAll parts + 1
  | .iface _ d => uptoBulk d + 1
  | .map entries => uptoBulkEntries entries + 1
  | .held _ => 1
def uptoBulkAll {H : Type} : List (DataW H) → Nat
  | [] => 0
  | d :: r => uptoBulk d + uptoBulkAll r
def uptoBulkEntries {H : Type} : List (Lit × DataW H) → Nat
  | [] => 0
  | x :: r => uptoBulkEntry x + uptoBulkEntries r
def uptoBulkEntry {H : Type} : Lit × DataW H → Nat
  | (.string bytes, d) => bytes.length + uptoBulk d + 1
  | (_, d) => uptoBulk d + 1
 end
def uptoSmall : (H : Type) → List (DataW H) → Bool := fun _ ds => decide (uptoBulkAll ds ≤ 1048576)
def OpenSpec.upto (s : _root_.Go.ChangeSpec) : _root_.Go.OpenSpec := { _root_.Go.OpenSpec.ofChange s with cond := some uptoSmall }

/-- 'meterworkslaw10.StepSuspects', WHERE WHAT IT READS IS OF BULK AT MOST 1048576: true; the input reads as it did. -/
def stepSuspectsUptoRow : OpenClaim := { program := "ytpognhnmkjpipaadoor", sum := "12279da8c09391dcbe03f8325d31669ad436a4fdd0f1703c4bdb51198d931646", func := "meterworks/meterworkslaw10.StepSuspects", spec := "stepSuspects", unfollowed := true, recurses := true, named := ["math/bits.deBruijn32tab", "math/bits.deBruijn64tab"], apart := false, laid := [("math/bits.deBruijn32tab", laid_math_bits_deBruijn32tab), ("math/bits.deBruijn64tab", laid_math_bits_deBruijn64tab)], narrowed := true }
def StepSuspectsUptoSaid : Prop := stepSuspectsUptoRow.holds Tryd.pinned (OpenSpec.upto stepSuspectsSpec)

/-- 'meterworkslaw10.StepLeaks', WHERE WHAT IT READS IS OF BULK AT MOST 1048576: true; the input reads as it did. -/
def stepLeaksUptoRow : OpenClaim := { program := "ytpognhnmkjpipaadoor", sum := "12279da8c09391dcbe03f8325d31669ad436a4fdd0f1703c4bdb51198d931646", func := "meterworks/meterworkslaw10.StepLeaks", spec := "stepLeaks", unfollowed := true, recurses := true, named := ["math/bits.deBruijn32tab", "math/bits.deBruijn64tab"], apart := false, laid := [("math/bits.deBruijn32tab", laid_math_bits_deBruijn32tab), ("math/bits.deBruijn64tab", laid_math_bits_deBruijn64tab)], narrowed := true }
def StepLeaksUptoSaid : Prop := stepLeaksUptoRow.holds Tryd.pinned (OpenSpec.upto stepLeaksSpec)

/-- 'meterworkslaw10.StepTrue', WHERE WHAT IT READS IS OF BULK AT MOST 1048576: true; the input reads as it did. -/
def stepTrueUptoRow : OpenClaim := { program := "ytpognhnmkjpipaadoor", sum := "12279da8c09391dcbe03f8325d31669ad436a4fdd0f1703c4bdb51198d931646", func := "meterworks/meterworkslaw10.StepTrue", spec := "stepTrue", unfollowed := true, recurses := true, named := ["math/bits.deBruijn32tab", "math/bits.deBruijn64tab"], apart := false, laid := [("math/bits.deBruijn32tab", laid_math_bits_deBruijn32tab), ("math/bits.deBruijn64tab", laid_math_bits_deBruijn64tab)], narrowed := true }
def StepTrueUptoSaid : Prop := stepTrueUptoRow.holds Tryd.pinned (OpenSpec.upto stepTrueSpec)

/-- 'meterworkslaw10.StepEnds', WHERE WHAT IT READS IS OF BULK AT MOST 1048576: true; the input reads as it did. -/
def stepEndsUptoRow : OpenClaim := { program := "ytpognhnmkjpipaadoor", sum := "12279da8c09391dcbe03f8325d31669ad436a4fdd0f1703c4bdb51198d931646", func := "meterworks/meterworkslaw10.StepEnds", spec := "stepEnds", unfollowed := true, recurses := true, named := ["math/bits.deBruijn32tab", "math/bits.deBruijn64tab"], apart := false, laid := [("math/bits.deBruijn32tab", laid_math_bits_deBruijn32tab), ("math/bits.deBruijn64tab", laid_math_bits_deBruijn64tab)], narrowed := true }
def StepEndsUptoSaid : Prop := stepEndsUptoRow.holds Tryd.pinned (OpenSpec.upto stepEndsSpec)

/-- 'meterworkslaw10.StepMore', WHERE WHAT IT READS IS OF BULK AT MOST 1048576: true; the input reads as it did. -/
def stepMoreUptoRow : OpenClaim := { program := "ytpognhnmkjpipaadoor", sum := "12279da8c09391dcbe03f8325d31669ad436a4fdd0f1703c4bdb51198d931646", func := "meterworks/meterworkslaw10.StepMore", spec := "stepMore", unfollowed := true, recurses := true, named := ["math/bits.deBruijn32tab", "math/bits.deBruijn64tab"], apart := false, laid := [("math/bits.deBruijn32tab", laid_math_bits_deBruijn32tab), ("math/bits.deBruijn64tab", laid_math_bits_deBruijn64tab)], narrowed := true }
def StepMoreUptoSaid : Prop := stepMoreUptoRow.holds Tryd.pinned (OpenSpec.upto stepMoreSpec)

/-- 'meterworkslaw10.StepOrder', WHERE WHAT IT READS IS OF BULK AT MOST 1048576: true; the input reads as it did. -/
def stepOrderUptoRow : OpenClaim := { program := "ytpognhnmkjpipaadoor", sum := "12279da8c09391dcbe03f8325d31669ad436a4fdd0f1703c4bdb51198d931646", func := "meterworks/meterworkslaw10.StepOrder", spec := "stepOrder", unfollowed := true, recurses := true, named := ["math/bits.deBruijn32tab", "math/bits.deBruijn64tab"], apart := false, laid := [("math/bits.deBruijn32tab", laid_math_bits_deBruijn32tab), ("math/bits.deBruijn64tab", laid_math_bits_deBruijn64tab)], narrowed := true }
def StepOrderUptoSaid : Prop := stepOrderUptoRow.holds Tryd.pinned (OpenSpec.upto stepOrderSpec)

/-- 'meterworkslaw10.StepNext', WHERE WHAT IT READS IS OF BULK AT MOST 1048576: true; the input reads as it did. -/
def stepNextUptoRow : OpenClaim := { program := "ytpognhnmkjpipaadoor", sum := "12279da8c09391dcbe03f8325d31669ad436a4fdd0f1703c4bdb51198d931646", func := "meterworks/meterworkslaw10.StepNext", spec := "stepNext", unfollowed := true, recurses := true, named := ["math/bits.deBruijn32tab", "math/bits.deBruijn64tab"], apart := false, laid := [("math/bits.deBruijn32tab", laid_math_bits_deBruijn32tab), ("math/bits.deBruijn64tab", laid_math_bits_deBruijn64tab)], narrowed := true }
def StepNextUptoSaid : Prop := stepNextUptoRow.holds Tryd.pinned (OpenSpec.upto stepNextSpec)

end Rows
end Go.Proofs.YtpognhnmkjpipaaDoor
