/- For all arguments ZoneLeaks returns true, and its arguments read as they did: no conditions. -/
import Derived.Test.YtipnaeijbbbdoaaRows
import Derived.WalkKit
import Derived.ProofKit
import Derived.OpenShut
import Derived.Test.YtipnaeijbbbdoaaArgs
import Derived.Test.YtipnaeijbbbdoaaL4
namespace Go.Proofs.Ytipnaeijbbbdoaa.zoneLeaks
open Go.ChangeShapes Go.WideShapes Go.ChangeAt Go.RowKit
set_option linter.unusedVariables false      -- a walk need not use every 'w<i>' (that an integer argument fits its kind)

theorem own : ownKnob Try.prog.godebug = none := by kernel_rfl

/-! The row's step. -/
set_option maxRecDepth 100000 in
theorem lifted (os : Os) (started : os.Started) (H : Type) (enc : TypeId × Value → H) :
    ReturnsInHanded {} Try.checked os 4 .any (Rows.zoneLeaksSpec.pre6 enc Try.prog Try.f4 Rows.zoneLeaksRow.domain false) (Rows.zoneLeaksSpec.post enc Try.prog Try.f4 false true false false) := by
  refine returnsInHanded_of_change (C := Try.checked) own started (by kernel_rfl) Try.func4
    (ChangeSpec.witness6 (enc := enc) (C := Try.checked) false ⟨#[], #[.slice none 0 0, .slice none 0 0], []⟩ 8 (by kernel_rfl) (by kernel_rfl) (by kernel_rfl) (by kernel_rfl)) ?_
  intro W base args ds gs before hval0 hW hcnd _
  have hval : ∀ (j : Nat) t v, Try.f4.params[j]? = some t → args[j]? = some v → Value.okWide Try.prog W .any base t v := hval0
  have hW' := hW
  obtain ⟨p, q, hA0, hV, rfl, hfz, hnd⟩ := hW
  have hA : DataW.TrodAll enc Try.prog W 0 (fun _ => true) true Try.f4.params.toList args.toList ds p := hA0
  rw [Try.params4] at hA hval
  obtain ⟨v0, vs0, d0, ds0, p0, q0, hargs, rfl, rfl, h_0, hA1⟩ := trodAll_cons hA
  obtain ⟨v1, vs1, d1, ds1, p1, q1, rfl, rfl, rfl, h_1, hA2⟩ := trodAll_cons hA1
  obtain ⟨e1, rfl, rfl⟩ := trodAll_none hA2
  obtain rfl : vs1 = [] := congrArg Array.toList e1
  obtain ⟨rfl, rfl⟩ := trodVars_none hV
  clear hA0 hval0 hA hA1 hA2
  obtain ⟨args⟩ := args
  simp only at hargs
  subst hargs
  obtain ⟨oa0, n0, cap0, rfl, hT0, hc0, hn0⟩ := open_zones (hval 0 22 v0 rfl rfl) h_0
  obtain ⟨oa1, n1, cap1, rfl, hT1, hc1, hn1⟩ := open_nights (hval 1 32 v1 rfl rfl) h_1
  refine (zoneLeaks_any oa0 n0 cap0 _ oa1 n1 cap1 _ W hT0 hT1).mono fun e W' ⟨he, hg⟩ => ?_
  subst he
  exact ⟨_, rfl, true_row (by kernel_rfl) rfl (by kernel_rfl) Try.underlying4 (by kernel_rfl) rfl hW' hg⟩

theorem over : Rows.zoneLeaksRow.holds Try.pinned (OpenSpec.ofChange Rows.zoneLeaksSpec) :=
  OpenClaim.holds_of_wide 4 Try.f4 rfl rfl rfl rfl rfl rfl rfl ⟨rfl, rfl, rfl, rfl, rfl⟩ rfl rfl rfl rfl rfl (by kernel_rfl) Try.func4 (by kernel_rfl)
    (of_decide_eq_true (by kernel_rfl)) (by unfold Func.isWrapper; rw [if_neg (of_decide_eq_false (by kernel_rfl))]; exact ⟨rfl, rfl⟩)
    (fun os started H enc _ => lifted os started H enc)

/-- The statement. -/
theorem proved : Rows.ZoneLeaksSaid :=
  over
#print axioms proved
end Go.Proofs.Ytipnaeijbbbdoaa.zoneLeaks
