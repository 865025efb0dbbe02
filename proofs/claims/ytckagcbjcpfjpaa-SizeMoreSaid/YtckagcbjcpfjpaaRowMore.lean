/- For every house, size, rule and two numbers SizeMore returns true, and its arguments read as they did: no conditions. -/
import Derived.Test.YtckagcbjcpfjpaaRows
import Derived.WalkKit
import Derived.ProofKit
import Derived.OpenShut
import Derived.Test.YtckagcbjcpfjpaaKit
import Derived.Test.YtckagcbjcpfjpaaArgs3
import Derived.Test.YtckagcbjcpfjpaaL10
import Derived.Test.YtckagcbjcpfjpaaAlive2
namespace Go.Proofs.Ytckagcbjcpfjpaa.sizeMore
open Go.ChangeShapes Go.WideShapes Go.ChangeAt Go.RowKit
set_option linter.unusedVariables false      -- a walk need not use every 'w<i>' (that an integer argument fits its kind)

theorem own : ownKnob Try.prog.godebug = none := by kernel_rfl

/-! The row's step. -/
set_option maxRecDepth 100000 in
theorem lifted (os : Os) (started : os.Started) (H : Type) (enc : TypeId × Value → H) :
    ReturnsInHanded {} Try.checked os 10 .any (Rows.sizeMoreSpec.pre6 enc Try.prog Try.f10 Rows.sizeMoreRow.domain false) (Rows.sizeMoreSpec.post enc Try.prog Try.f10 false true false false) := by
  refine returnsInHanded_of_change (C := Try.checked) own started (by kernel_rfl) Try.func10
    (ChangeSpec.witness6 (enc := enc) (C := Try.checked) false ⟨#[], #[.agg #[.int .i64 0, .int .i64 0, .slice none 0 0, .slice none 0 0], .agg #[.int .i64 0, .int .i64 0, .int .i64 0, .int .i64 0], .agg #[.int .i64 0, .int .i64 0], .int .u8 0, .int .u8 0], []⟩ 8 (by kernel_rfl) (by kernel_rfl) (by kernel_rfl) (by kernel_rfl)) ?_
  intro W base args ds gs before hval0 hW hcnd _
  have hval : ∀ (j : Nat) t v, Try.f10.params[j]? = some t → args[j]? = some v → Value.okWide Try.prog W .any base t v := hval0
  have hW' := hW
  obtain ⟨p, q, hA0, hV, rfl, hfz, hnd⟩ := hW
  have hA : DataW.TrodAll enc Try.prog W 0 (fun _ => true) true Try.f10.params.toList args.toList ds p := hA0
  rw [Try.params10] at hA hval
  obtain ⟨v0, vs0, d0, ds0, p0, q0, hargs, rfl, rfl, h_0, hA1⟩ := trodAll_cons hA
  obtain ⟨v1, vs1, d1, ds1, p1, q1, rfl, rfl, rfl, h_1, hA2⟩ := trodAll_cons hA1
  obtain ⟨v2, vs2, d2, ds2, p2, q2, rfl, rfl, rfl, h_2, hA3⟩ := trodAll_cons hA2
  obtain ⟨v3, vs3, d3, ds3, p3, q3, rfl, rfl, rfl, h_3, hA4⟩ := trodAll_cons hA3
  obtain ⟨v4, vs4, d4, ds4, p4, q4, rfl, rfl, rfl, h_4, hA5⟩ := trodAll_cons hA4
  obtain ⟨e1, rfl, rfl⟩ := trodAll_none hA5
  obtain rfl : vs4 = [] := congrArg Array.toList e1
  obtain ⟨rfl, rfl⟩ := trodVars_none hV
  clear hA0 hval0 hA hA1 hA2 hA3 hA4 hA5
  obtain ⟨args⟩ := args
  simp only at hargs
  subst hargs
  obtain ⟨h0, ta0, ra0, tc0, rc0, rfl, hT0, hR0, hnT0, hnR0⟩ := open_house3 (hval 0 25 v0 rfl rfl) h_0
  obtain ⟨m1, rfl⟩ := open_meter (hval 1 27 v1 rfl rfl) h_1
  obtain ⟨r2, rfl⟩ := open_rule (hval 2 65 v2 rfl rfl) h_2
  obtain ⟨z3, rfl, hz3⟩ := open_u8 (hval 3 5 v3 rfl rfl) h_3
  obtain ⟨z4, rfl, hz4⟩ := open_u8 (hval 4 5 v4 rfl rfl) h_4
  refine (more_of alive_any h0 m1 r2 z3 z4 hz3 hz4 ta0 ra0 tc0 rc0 W hT0 hR0 hnT0 hnR0).mono fun e W' ⟨he, hg⟩ => ?_
  subst he
  exact ⟨_, rfl, true_row (by kernel_rfl) rfl (by kernel_rfl) Try.underlying4 (by kernel_rfl) rfl hW' hg⟩

theorem over : Rows.sizeMoreRow.holds Try.pinned (OpenSpec.ofChange Rows.sizeMoreSpec) :=
  OpenClaim.holds_of_wide 10 Try.f10 rfl rfl rfl rfl rfl rfl rfl ⟨rfl, rfl, rfl, rfl, rfl⟩ rfl rfl rfl rfl rfl (by kernel_rfl) Try.func10 (by kernel_rfl)
    (of_decide_eq_true (by kernel_rfl)) (by unfold Func.isWrapper; rw [if_neg (of_decide_eq_false (by kernel_rfl))]; exact ⟨rfl, rfl⟩)
    (fun os started H enc _ => lifted os started H enc)

/-- The statement. -/
theorem proved : Rows.SizeMoreSaid :=
  over
#print axioms proved
end Go.Proofs.Ytckagcbjcpfjpaa.sizeMore
