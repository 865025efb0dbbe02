/- For every bench, catch, time and row of meters BenchEnds returns true, and its arguments read as they did: no conditions. -/
import Derived.Test.YthoefcpeagclbaaRows
import Derived.WalkKit
import Derived.ProofKit
import Derived.OpenShut
import Derived.Test.YthoefcpeagclbaaArgs
import Derived.Test.YthoefcpeagclbaaL6
namespace Go.Proofs.Ythoefcpeagclbaa.benchEnds
open Go.ChangeShapes Go.WideShapes Go.ChangeAt Go.RowKit
set_option linter.unusedVariables false      -- a walk need not use every 'w<i>' (that an integer argument fits its kind)

theorem own : ownKnob Try.prog.godebug = none := by kernel_rfl

/-! The row's step. -/
set_option maxRecDepth 100000 in
theorem lifted (os : Os) (started : os.Started) (H : Type) (enc : TypeId × Value → H) :
    ReturnsInHanded {} Try.checked os 6 .any (Rows.benchEndsSpec.pre6 enc Try.prog Try.f6 Rows.benchEndsRow.domain false) (Rows.benchEndsSpec.post enc Try.prog Try.f6 false true false false) := by
  refine returnsInHanded_of_change (C := Try.checked) own started (by kernel_rfl) Try.func6
    (ChangeSpec.witness6 (enc := enc) (C := Try.checked) false ⟨#[], #[.agg #[.bool false, .slice none 0 0, .int .i64 0, .int .i64 0, .int .i64 0, .int .i64 0, .int .i64 0], .agg #[.int .i64 0, .int .i64 0, .int .i64 0, .int .i64 0, .int .i64 0, .int .i64 0], .agg #[.int .i64 0, .int .i64 0], .slice none 0 0], []⟩ 8 (by kernel_rfl) (by kernel_rfl) (by kernel_rfl) (by kernel_rfl)) ?_
  intro W base args ds gs before hval0 hW hcnd _
  have hval : ∀ (j : Nat) t v, Try.f6.params[j]? = some t → args[j]? = some v → Value.okWide Try.prog W .any base t v := hval0
  have hW' := hW
  obtain ⟨p, q, hA0, hV, rfl, hfz, hnd⟩ := hW
  have hA : DataW.TrodAll enc Try.prog W 0 (fun _ => true) true Try.f6.params.toList args.toList ds p := hA0
  rw [Try.params6] at hA hval
  obtain ⟨v0, vs0, d0, ds0, p0, q0, hargs, rfl, rfl, h_0, hA1⟩ := trodAll_cons hA
  obtain ⟨v1, vs1, d1, ds1, p1, q1, rfl, rfl, rfl, h_1, hA2⟩ := trodAll_cons hA1
  obtain ⟨v2, vs2, d2, ds2, p2, q2, rfl, rfl, rfl, h_2, hA3⟩ := trodAll_cons hA2
  obtain ⟨v3, vs3, d3, ds3, p3, q3, rfl, rfl, rfl, h_3, hA4⟩ := trodAll_cons hA3
  obtain ⟨e1, rfl, rfl⟩ := trodAll_none hA4
  obtain rfl : vs3 = [] := congrArg Array.toList e1
  obtain ⟨rfl, rfl⟩ := trodVars_none hV
  clear hA0 hval0 hA hA1 hA2 hA3 hA4
  obtain ⟨args⟩ := args
  simp only at hargs
  subst hargs
  obtain ⟨b0, oa0, cap0, rfl, hT0, hc0, hn0⟩ := open_bench (hval 0 26 v0 rfl rfl) h_0
  obtain ⟨x1, rfl⟩ := open_catch (hval 1 28 v1 rfl rfl) h_1
  obtain ⟨s2, rfl⟩ := open_span (hval 2 24 v2 rfl rfl) h_2
  obtain ⟨ra3, m3, rc3, rfl, hR3, hrc3, hm3⟩ := open_row (hval 3 36 v3 rfl rfl) h_3
  refine (ends_of b0 x1 s2 oa0 cap0 ra3 m3 rc3 _ W hc0 hT0 hm3 hR3).mono fun e W' ⟨he, hg⟩ => ?_
  subst he
  exact ⟨_, rfl, true_row (by kernel_rfl) rfl (by kernel_rfl) Try.underlying4 (by kernel_rfl) rfl hW' hg⟩

theorem over : Rows.benchEndsRow.holds Try.pinned (OpenSpec.ofChange Rows.benchEndsSpec) :=
  OpenClaim.holds_of_wide 6 Try.f6 rfl rfl rfl rfl rfl rfl rfl ⟨rfl, rfl, rfl, rfl, rfl⟩ rfl rfl rfl rfl rfl (by kernel_rfl) Try.func6 (by kernel_rfl)
    (of_decide_eq_true (by kernel_rfl)) (by unfold Func.isWrapper; rw [if_neg (of_decide_eq_false (by kernel_rfl))]; exact ⟨rfl, rfl⟩)
    (fun os started H enc _ => lifted os started H enc)

/-- The statement. -/
theorem proved : Rows.BenchEndsSaid :=
  over
#print axioms proved
end Go.Proofs.Ythoefcpeagclbaa.benchEnds
