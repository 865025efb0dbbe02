/- For all its arguments TravelTrue returns true, and they read as they did: no conditions, but that math/bits holds its tables, which the card ties to the text. -/
import Derived.Test.YtldodmfmibeoiaaDoorCards
import Derived.Test.YtldodmfmibeoiaaDoorTie
import Derived.Test.YtldodmfmibeoiaaDoorTabs
import Derived.Test.YtldodmfmibeoiaaDoorL8
import Derived.Test.YtldodmfmibeoiaaDoorArgs2
import Derived.SevenTiedAt
namespace Go.Proofs.YtldodmfmibeoiaaDoor.travelTrue
open Go.ChangeShapes Go.WideShapes Go.ChangeAt Go.RowKit
set_option linter.unusedVariables false
theorem own : ownKnob Tryd.prog.godebug = none := by kernel_rfl
theorem door_met (os : Os) (args : Array Value) : laidMetH Tryd.prog laid2 ((World.doorLaid Tryd.prog 4000 os).forCall (fun _ _ => 0) ⟨#[], args, []⟩).memory :=
  laidMetH_of_parts3 (fuel := 8) (laidMet_of_run' 8 (by kernel_rfl) (by kernel_rfl)) (by kernel_rfl) (by kernel_rfl)
set_option maxRecDepth 100000 in
theorem lifted (os : Os) (started : os.Started) (H : Type) (enc : TypeId × Value → H) :
    ReturnsInHanded {} Tryd.checked os 6 .any (fun w args => (Rows.travelTrueSpec.pre enc Tryd.prog Tryd.f6 [] false w args ∧ laidMetH Tryd.prog laid2 w) ∧ sizedMet enc Tryd.prog Tryd.f6 (OpenSpec.ofChange Rows.travelTrueSpec) false w args)
      (Rows.travelTrueSpec.post enc Tryd.prog Tryd.f6 false true false false) := by
  refine returnsInHanded_of_change_and (C := Tryd.checked) (X := fun w _ => laidMetH Tryd.prog laid2 w) (fun _ _ _ hh h => h.of_heap hh) own started (by kernel_rfl) Tryd.func6
    (ChangeSpec.witness_shaped (enc := enc) (C := Tryd.checked) (os := os) (X := fun w _ => laidMetH Tryd.prog laid2 w) false (World.doorLaid Tryd.prog 4000 os) #[.int .u8 0, .int .u8 0, .int .u8 0, .int .u8 0, .slice none 0 0] 8 rfl (World.shaped_of_RefB (by kernel_rfl) (by kernel_rfl)) (by kernel_rfl) (by kernel_rfl) (by kernel_rfl) (door_met os _)) ?_
  intro W base args ds gs before hval0 hW _ _ hL _
  have hval : ∀ (j : Nat) t v, Tryd.f6.params[j]? = some t → args[j]? = some v → Value.okWide Tryd.prog W .any base t v := hval0
  have hW' := hW
  obtain ⟨p, q, hA0, hV, rfl, hfz, hnd⟩ := hW
  have hA : DataW.TrodAll enc Tryd.prog W 0 (fun _ => true) true Tryd.f6.params.toList args.toList ds p := hA0
  rw [Tryd.params6] at hA hval
  obtain ⟨v0, vs0, d0, ds0, p0, q0, hargs, rfl, rfl, h_0, hA1⟩ := trodAll_cons hA
  obtain ⟨v1, vs1, d1, ds1, p1, q1, rfl, rfl, rfl, h_1, hA2⟩ := trodAll_cons hA1
  obtain ⟨v2, vs2, d2, ds2, p2, q2, rfl, rfl, rfl, h_2, hA3⟩ := trodAll_cons hA2
  obtain ⟨v3, vs3, d3, ds3, p3, q3, rfl, rfl, rfl, h_3, hA4⟩ := trodAll_cons hA3
  obtain ⟨v4, vs4, d4, ds4, p4, q4, rfl, rfl, rfl, h_4, hA5⟩ := trodAll_cons hA4
  obtain ⟨e1, rfl, rfl⟩ := trodAll_none hA5
  obtain rfl : vs4 = [] := congrArg Array.toList e1
  obtain ⟨rfl, rfl⟩ := trodVars_none hV
  clear hA0 hval0 hA hA1 hA2 hA3 hA4 hA5
  obtain ⟨args⟩ := args
  simp only at hargs
  subst hargs
  obtain ⟨hTab, hlt1⟩ := tab_of hL
  obtain ⟨z0, rfl, hz0⟩ := open_u8 (hval 0 5 v0 rfl rfl) h_0
  obtain ⟨z1, rfl, hz1⟩ := open_u8 (hval 1 5 v1 rfl rfl) h_1
  obtain ⟨z2, rfl, hz2⟩ := open_u8 (hval 2 5 v2 rfl rfl) h_2
  obtain ⟨z3, rfl, hz3⟩ := open_u8 (hval 3 5 v3 rfl rfl) h_3
  obtain ⟨ua4, m4, uc4, rfl, hR4, huc4, hum4⟩ := open_u16s (hval 4 41 v4 rfl rfl) h_4
  refine (travelTrue_any z0 z1 z2 z3 ua4 m4 uc4 _ W hTab hlt1 hz0 hz1 hz2 hz3 hR4 hum4).mono fun e W' ⟨he, hg⟩ => ?_
  subst he
  exact ⟨_, rfl, true_row (by kernel_rfl) rfl (by kernel_rfl) Tryd.underlying4 (by kernel_rfl) rfl hW' hg⟩
theorem over : Rows.TravelTrueSaid :=
  OpenClaim.holds_of_wide 6 Tryd.f6 rfl rfl rfl rfl rfl rfl rfl ⟨rfl, rfl, rfl, rfl, rfl⟩ rfl rfl rfl rfl rfl (by kernel_rfl) Tryd.func6 (by kernel_rfl)
    (of_decide_eq_true (by kernel_rfl)) (by unfold Func.isWrapper; rw [if_neg (of_decide_eq_false (by kernel_rfl))]; exact ⟨rfl, rfl⟩)
    (fun os started H enc _ => lifted os started H enc)
/-- The card. -/
theorem proved : Rows.TravelTrueCardSaid :=
  Claim7.holds_tied_plain_at .later [] [.data, .data] true (true, "f388cbf75485bbda68a13c13777d0bbf9e7bd320521d2a2b3c1ceb202c0fcb3b") false
    over (fun _ h => by cases h) (by kernel_rfl) (fun _ h => by cases h) travelTrue_row_tie rfl ⟨rfl, rfl⟩ (by kernel_rfl) rfl
    (fun f fn hf hfn => by
      obtain rfl : f = 6 := Option.some.inj ((show Tryd.prog.funcNamed "meterworks/meterworkslaw05.TravelTrue" = some 6 by kernel_rfl).symm.trans hf) |>.symm
      obtain rfl : fn = Tryd.f6 := (Option.some.inj (Tryd.func6.symm.trans hfn)).symm
      exact ⟨by kernel_rfl, fun j t ht => by
        rw [Tryd.params6] at ht
        have hm : t ∈ [5, 5, 5, 5, 41] := by simpa using Array.mem_of_getElem? ht
        have hall : ([5, 5, 5, 5, 41].all fun u => !Tryd.prog.wantsStandIn u) = true := by kernel_rfl
        exact (show Tryd.prog.wantsStandIn t = false by simpa using List.all_eq_true.1 hall t hm)⟩)
    (by kernel_rfl)
#print axioms proved
end Go.Proofs.YtldodmfmibeoiaaDoor.travelTrue
