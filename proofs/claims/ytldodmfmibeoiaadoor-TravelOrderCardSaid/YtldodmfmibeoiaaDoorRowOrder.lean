/- For all its arguments TravelOrder returns true, and they read as they did: no conditions, but that math/bits holds its tables, which the card ties to the text. -/
import Derived.Test.YtldodmfmibeoiaaDoorCards
import Derived.Test.YtldodmfmibeoiaaDoorTie
import Derived.Test.YtldodmfmibeoiaaDoorTabs
import Derived.Test.YtldodmfmibeoiaaDoorO2
import Derived.SevenTiedAt
namespace Go.Proofs.YtldodmfmibeoiaaDoor.travelOrder
open Go.ChangeShapes Go.WideShapes Go.ChangeAt Go.RowKit
set_option linter.unusedVariables false
theorem own : ownKnob Tryd.prog.godebug = none := by kernel_rfl
theorem door_met (os : Os) (args : Array Value) : laidMetH Tryd.prog laid2 ((World.doorLaid Tryd.prog 4000 os).forCall (fun _ _ => 0) ⟨#[], args, []⟩).memory :=
  laidMetH_of_parts3 (fuel := 8) (laidMet_of_run' 8 (by kernel_rfl) (by kernel_rfl)) (by kernel_rfl) (by kernel_rfl)
set_option maxRecDepth 100000 in
theorem lifted (os : Os) (started : os.Started) (H : Type) (enc : TypeId × Value → H) :
    ReturnsInHanded {} Tryd.checked os 10 .any (fun w args => (Rows.travelOrderSpec.pre enc Tryd.prog Tryd.f10 [] false w args ∧ laidMetH Tryd.prog laid2 w) ∧ sizedMet enc Tryd.prog Tryd.f10 (OpenSpec.ofChange Rows.travelOrderSpec) false w args)
      (Rows.travelOrderSpec.post enc Tryd.prog Tryd.f10 false true false false) := by
  refine returnsInHanded_of_change_and (C := Tryd.checked) (X := fun w _ => laidMetH Tryd.prog laid2 w) (fun _ _ _ hh h => h.of_heap hh) own started (by kernel_rfl) Tryd.func10
    (ChangeSpec.witness_shaped (enc := enc) (C := Tryd.checked) (os := os) (X := fun w _ => laidMetH Tryd.prog laid2 w) false (World.doorLaid Tryd.prog 4000 os) #[.agg #[.int .i64 0, .int .i64 0, .int .i64 0, .slice none 0 0], .int .i64 0, .int .i64 0, .int .i64 0, .int .u8 0] 8 rfl (World.shaped_of_RefB (by kernel_rfl) (by kernel_rfl)) (by kernel_rfl) (by kernel_rfl) (by kernel_rfl) (door_met os _)) ?_
  intro W base args ds gs before hval0 hW _ _ hL _
  have hval : ∀ (j : Nat) t v, Tryd.f10.params[j]? = some t → args[j]? = some v → Value.okWide Tryd.prog W .any base t v := hval0
  have hW' := hW
  obtain ⟨p, q, hA0, hV, rfl, hfz, hnd⟩ := hW
  have hA : DataW.TrodAll enc Tryd.prog W 0 (fun _ => true) true Tryd.f10.params.toList args.toList ds p := hA0
  rw [Tryd.params10] at hA hval
  obtain ⟨v0, vs0, d0, ds0, p0, q0, hargs, rfl, rfl, h_0, hA1⟩ := trodAll_cons hA
  obtain ⟨v1, vs1, d1, ds1, p1, q1, rfl, rfl, rfl, h_1, hA2⟩ := trodAll_cons hA1
  obtain ⟨v2, vs2, d2, ds2, p2, q2, rfl, rfl, rfl, h_2, hA3⟩ := trodAll_cons hA2
  obtain ⟨v3, vs3, d3, ds3, p3, q3, rfl, rfl, rfl, h_3, hA4⟩ := trodAll_cons hA3
  obtain ⟨v4, vs4, d4, ds4, p4, q4, rfl, rfl, rfl, h_4, hA5⟩ := trodAll_cons hA4
  obtain ⟨e1, rfl, rfl⟩ := trodAll_none hA5
  obtain rfl : vs4 = [] := congrArg Array.toList e1
  obtain ⟨rfl, rfl⟩ := trodVars_none hV
  clear hA0 hval0 hA hA1 hA2 hA3 hA4 hA5
  obtain ⟨args⟩ := args
  simp only at hargs
  subst hargs
  obtain ⟨hTab, hlt1⟩ := tab_of hL
  obtain ⟨r0, oa0, ca0, rfl, hR0, hca0, hn0, hun0⟩ := open_round (hval 0 24 v0 rfl rfl) h_0
  obtain ⟨z1, rfl⟩ := open_int (hval 1 3 v1 rfl rfl)
  obtain ⟨z2, rfl⟩ := open_int (hval 2 3 v2 rfl rfl)
  obtain ⟨z3, rfl⟩ := open_int (hval 3 3 v3 rfl rfl)
  obtain ⟨z4, rfl, hz4⟩ := open_u8 (hval 4 5 v4 rfl rfl) h_4
  refine (travelOrder_any r0 oa0 ca0 z1 z2 z3 z4 W hR0 hTab hlt1 hn0 hz4).mono fun e W' ⟨he, hg⟩ => ?_
  subst he
  exact ⟨_, rfl, true_row (by kernel_rfl) rfl (by kernel_rfl) Tryd.underlying4 (by kernel_rfl) rfl hW' hg⟩
theorem over : Rows.TravelOrderSaid :=
  OpenClaim.holds_of_wide 10 Tryd.f10 rfl rfl rfl rfl rfl rfl rfl ⟨rfl, rfl, rfl, rfl, rfl⟩ rfl rfl rfl rfl rfl (by kernel_rfl) Tryd.func10 (by kernel_rfl)
    (of_decide_eq_true (by kernel_rfl)) (by unfold Func.isWrapper; rw [if_neg (of_decide_eq_false (by kernel_rfl))]; exact ⟨rfl, rfl⟩)
    (fun os started H enc _ => lifted os started H enc)
/-- The card. -/
theorem proved : Rows.TravelOrderCardSaid :=
  Claim7.holds_tied_plain_at .later [] [.data, .data] true (true, "f388cbf75485bbda68a13c13777d0bbf9e7bd320521d2a2b3c1ceb202c0fcb3b") false
    over (fun _ h => by cases h) (by kernel_rfl) (fun _ h => by cases h) travelOrder_row_tie rfl ⟨rfl, rfl⟩ (by kernel_rfl) rfl
    (fun f fn hf hfn => by
      obtain rfl : f = 10 := Option.some.inj ((show Tryd.prog.funcNamed "meterworks/meterworkslaw05.TravelOrder" = some 10 by kernel_rfl).symm.trans hf) |>.symm
      obtain rfl : fn = Tryd.f10 := (Option.some.inj (Tryd.func10.symm.trans hfn)).symm
      exact ⟨by kernel_rfl, fun j t ht => by
        rw [Tryd.params10] at ht
        have hm : t ∈ [24, 3, 3, 3, 5] := by simpa using Array.mem_of_getElem? ht
        have hall : ([24, 3, 3, 3, 5].all fun u => !Tryd.prog.wantsStandIn u) = true := by kernel_rfl
        exact (show Tryd.prog.wantsStandIn t = false by simpa using List.all_eq_true.1 hall t hm)⟩)
    (by kernel_rfl)
#print axioms proved
end Go.Proofs.YtldodmfmibeoiaaDoor.travelOrder
