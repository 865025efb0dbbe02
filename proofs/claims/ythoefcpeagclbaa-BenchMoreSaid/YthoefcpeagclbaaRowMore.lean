/- For every bench, catch, row of meters and numbers BenchMore returns true, and its arguments read as they did: no conditions. -/
import Derived.Test.YthoefcpeagclbaaRows
import Derived.WalkKit
import Derived.ProofKit
import Derived.OpenShut
import Derived.Test.YthoefcpeagclbaaArgs
import Derived.Test.YthoefcpeagclbaaL8
namespace Go.Proofs.Ythoefcpeagclbaa.benchMore
open Go.ChangeShapes Go.WideShapes Go.ChangeAt Go.RowKit
set_option linter.unusedVariables false      -- a walk need not use every 'w<i>' (that an integer argument fits its kind)

theorem own : ownKnob Try.prog.godebug = none := by kernel_rfl

/-! The row's step. -/
set_option maxRecDepth 100000 in
theorem lifted (os : Os) (started : os.Started) (H : Type) (enc : TypeId × Value → H) :
    ReturnsInHanded {} Try.checked os 8 .any (Rows.benchMoreSpec.pre6 enc Try.prog Try.f8 Rows.benchMoreRow.domain false) (Rows.benchMoreSpec.post enc Try.prog Try.f8 false true false false) := by
  refine returnsInHanded_of_change (C := Try.checked) own started (by kernel_rfl) Try.func8
    (ChangeSpec.witness6 (enc := enc) (C := Try.checked) false ⟨#[], #[.agg #[.bool false, .slice none 0 0, .int .i64 0, .int .i64 0, .int .i64 0, .int .i64 0, .int .i64 0], .agg #[.int .i64 0, .int .i64 0, .int .i64 0, .int .i64 0, .int .i64 0, .int .i64 0], .slice none 0 0, .int .i64 0, .int .u8 0, .int .u16 0], []⟩ 8 (by kernel_rfl) (by kernel_rfl) (by kernel_rfl) (by kernel_rfl)) ?_
  intro W base args ds gs before hval0 hW hcnd _
  have hval : ∀ (j : Nat) t v, Try.f8.params[j]? = some t → args[j]? = some v → Value.okWide Try.prog W .any base t v := hval0
  have hW' := hW
  obtain ⟨p, q, hA0, hV, rfl, hfz, hnd⟩ := hW
  have hA : DataW.TrodAll enc Try.prog W 0 (fun _ => true) true Try.f8.params.toList args.toList ds p := hA0
  rw [Try.params8] at hA hval
  obtain ⟨v0, vs0, d0, ds0, p0, q0, hargs, rfl, rfl, h_0, hA1⟩ := trodAll_cons hA
  obtain ⟨v1, vs1, d1, ds1, p1, q1, rfl, rfl, rfl, h_1, hA2⟩ := trodAll_cons hA1
  obtain ⟨v2, vs2, d2, ds2, p2, q2, rfl, rfl, rfl, h_2, hA3⟩ := trodAll_cons hA2
  obtain ⟨v3, vs3, d3, ds3, p3, q3, rfl, rfl, rfl, h_3, hA4⟩ := trodAll_cons hA3
  obtain ⟨v4, vs4, d4, ds4, p4, q4, rfl, rfl, rfl, h_4, hA5⟩ := trodAll_cons hA4
  obtain ⟨v5, vs5, d5, ds5, p5, q5, rfl, rfl, rfl, h_5, hA6⟩ := trodAll_cons hA5
  obtain ⟨e1, rfl, rfl⟩ := trodAll_none hA6
  obtain rfl : vs5 = [] := congrArg Array.toList e1
  obtain ⟨rfl, rfl⟩ := trodVars_none hV
  clear hA0 hval0 hA hA1 hA2 hA3 hA4 hA5 hA6
  obtain ⟨args⟩ := args
  simp only at hargs
  subst hargs
  obtain ⟨b0, oa0, cap0, rfl, hT0, hc0, hn0⟩ := open_bench (hval 0 26 v0 rfl rfl) h_0
  obtain ⟨x1, rfl⟩ := open_catch (hval 1 28 v1 rfl rfl) h_1
  obtain ⟨ra2, m2, rc2, rfl, hR2, hrc2, hm2⟩ := open_row (hval 2 36 v2 rfl rfl) h_2
  obtain ⟨z3, rfl⟩ := open_int (hval 3 3 v3 rfl rfl)
  obtain ⟨z4, rfl, hz4⟩ := open_u8 (hval 4 5 v4 rfl rfl) h_4
  obtain ⟨z5, rfl, hz5⟩ := open_u16 (hval 5 63 v5 rfl rfl) h_5
  refine (more_of b0 x1 oa0 cap0 ra2 m2 rc2 _ z3 z4 z5 W hc0 hT0 hm2 hR2 hz4 hz5).mono fun e W' ⟨he, hg⟩ => ?_
  subst he
  exact ⟨_, rfl, true_row (by kernel_rfl) rfl (by kernel_rfl) Try.underlying4 (by kernel_rfl) rfl hW' hg⟩

theorem over : Rows.benchMoreRow.holds Try.pinned (OpenSpec.ofChange Rows.benchMoreSpec) :=
  OpenClaim.holds_of_wide 8 Try.f8 rfl rfl rfl rfl rfl rfl rfl ⟨rfl, rfl, rfl, rfl, rfl⟩ rfl rfl rfl rfl rfl (by kernel_rfl) Try.func8 (by kernel_rfl)
    (of_decide_eq_true (by kernel_rfl)) (by unfold Func.isWrapper; rw [if_neg (of_decide_eq_false (by kernel_rfl))]; exact ⟨rfl, rfl⟩)
    (fun os started H enc _ => lifted os started H enc)

/-- The statement. -/
theorem proved : Rows.BenchMoreSaid :=
  over
#print axioms proved
end Go.Proofs.Ythoefcpeagclbaa.benchMore
