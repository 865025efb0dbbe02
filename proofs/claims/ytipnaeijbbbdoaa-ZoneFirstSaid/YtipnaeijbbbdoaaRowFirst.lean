/- For all arguments ZoneFirst returns true, and its arguments read as they did: no conditions. -/
import Derived.Test.YtipnaeijbbbdoaaRows
import Derived.WalkKit
import Derived.ProofKit
import Derived.OpenShut
import Derived.Test.YtipnaeijbbbdoaaArgs
import Derived.Test.YtipnaeijbbbdoaaL9
namespace Go.Proofs.Ytipnaeijbbbdoaa.zoneFirst
open Go.ChangeShapes Go.WideShapes Go.ChangeAt Go.RowKit
set_option linter.unusedVariables false      -- a walk need not use every 'w<i>' (that an integer argument fits its kind)

theorem own : ownKnob Try.prog.godebug = none := by kernel_rfl

/-! The row's step. -/
set_option maxRecDepth 100000 in
theorem lifted (os : Os) (started : os.Started) (H : Type) (enc : TypeId × Value → H) :
    ReturnsInHanded {} Try.checked os 9 .any (Rows.zoneFirstSpec.pre6 enc Try.prog Try.f9 Rows.zoneFirstRow.domain false) (Rows.zoneFirstSpec.post enc Try.prog Try.f9 false true false false) := by
  refine returnsInHanded_of_change (C := Try.checked) own started (by kernel_rfl) Try.func9
    (ChangeSpec.witness6 (enc := enc) (C := Try.checked) false ⟨#[], #[.slice none 0 0, .slice none 0 0, .slice none 0 0, .int .u8 0], []⟩ 8 (by kernel_rfl) (by kernel_rfl) (by kernel_rfl) (by kernel_rfl)) ?_
  intro W base args ds gs before hval0 hW hcnd _
  have hval : ∀ (j : Nat) t v, Try.f9.params[j]? = some t → args[j]? = some v → Value.okWide Try.prog W .any base t v := hval0
  have hW' := hW
  obtain ⟨p, q, hA0, hV, rfl, hfz, hnd⟩ := hW
  have hA : DataW.TrodAll enc Try.prog W 0 (fun _ => true) true Try.f9.params.toList args.toList ds p := hA0
  rw [Try.params9] at hA hval
  obtain ⟨v0, vs0, d0, ds0, p0, q0, hargs, rfl, rfl, h_0, hA1⟩ := trodAll_cons hA
  obtain ⟨v1, vs1, d1, ds1, p1, q1, rfl, rfl, rfl, h_1, hA2⟩ := trodAll_cons hA1
  obtain ⟨v2, vs2, d2, ds2, p2, q2, rfl, rfl, rfl, h_2, hA3⟩ := trodAll_cons hA2
  obtain ⟨v3, vs3, d3, ds3, p3, q3, rfl, rfl, rfl, h_3, hA4⟩ := trodAll_cons hA3
  obtain ⟨e1, rfl, rfl⟩ := trodAll_none hA4
  obtain rfl : vs3 = [] := congrArg Array.toList e1
  obtain ⟨rfl, rfl⟩ := trodVars_none hV
  clear hA0 hval0 hA hA1 hA2 hA3 hA4
  obtain ⟨args⟩ := args
  simp only at hargs
  subst hargs
  obtain ⟨oa0, n0, cap0, rfl, hT0, hc0, hn0⟩ := open_zones (hval 0 22 v0 rfl rfl) h_0
  obtain ⟨oa1, n1, cap1, rfl, hT1, hc1, hn1⟩ := open_nights (hval 1 32 v1 rfl rfl) h_1
  obtain ⟨oa2, n2, cap2, rfl, hT2, hc2, hn2⟩ := open_u16s (hval 2 36 v2 rfl rfl) h_2
  obtain ⟨x3, rfl, hx3⟩ := open_u8 (hval 3 5 v3 rfl rfl) h_3
  refine (zoneFirst_any oa0 n0 cap0 _ oa1 n1 cap1 _ oa2 n2 cap2 _ x3 W hT0 hT1 hn2 hT2 hx3).mono fun e W' ⟨he, hg⟩ => ?_
  subst he
  exact ⟨_, rfl, true_row (by kernel_rfl) rfl (by kernel_rfl) Try.underlying4 (by kernel_rfl) rfl hW' hg⟩

theorem over : Rows.zoneFirstRow.holds Try.pinned (OpenSpec.ofChange Rows.zoneFirstSpec) :=
  OpenClaim.holds_of_wide 9 Try.f9 rfl rfl rfl rfl rfl rfl rfl ⟨rfl, rfl, rfl, rfl, rfl⟩ rfl rfl rfl rfl rfl (by kernel_rfl) Try.func9 (by kernel_rfl)
    (of_decide_eq_true (by kernel_rfl)) (by unfold Func.isWrapper; rw [if_neg (of_decide_eq_false (by kernel_rfl))]; exact ⟨rfl, rfl⟩)
    (fun os started H enc _ => lifted os started H enc)

/-- The statement. -/
theorem proved : Rows.ZoneFirstSaid :=
  over
#print axioms proved
end Go.Proofs.Ytipnaeijbbbdoaa.zoneFirst
