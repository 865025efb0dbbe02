/- For all its arguments TopRing returns true, and they read as they did: no conditions, but that math/bits holds its tables, which the card ties to the text. -/
import Derived.Test.YtlofopnjjeeehaaDoorCards
import Derived.Test.YtlofopnjjeeehaaDoorTie
import Derived.Test.YtlofopnjjeeehaaDoorTabs
import Derived.Test.YtlofopnjjeeehaaDoorL1
import Derived.Test.YtlofopnjjeeehaaDoorA1
import Derived.SevenTiedAt
namespace Go.Proofs.YtlofopnjjeeehaaDoor.topRing
open Go.ChangeShapes Go.WideShapes Go.ChangeAt Go.RowKit
set_option linter.unusedVariables false
theorem own : ownKnob Tryd.prog.godebug = none := by kernel_rfl
theorem door_met (os : Os) (args : Array Value) : laidMetH Tryd.prog laid2 ((World.doorLaid Tryd.prog 4000 os).forCall (fun _ _ => 0) ⟨#[], args, []⟩).memory :=
  laidMetH_of_parts3 (fuel := 8) (laidMet_of_run' 8 (by kernel_rfl) (by kernel_rfl)) (by kernel_rfl) (by kernel_rfl)
set_option maxRecDepth 100000 in
theorem lifted (os : Os) (started : os.Started) (H : Type) (enc : TypeId × Value → H) :
    ReturnsInHanded {} Tryd.checked os 3 .any (fun w args => (Rows.topRingSpec.pre enc Tryd.prog Tryd.f3 [] false w args ∧ laidMetH Tryd.prog laid2 w) ∧ sizedMet enc Tryd.prog Tryd.f3 (OpenSpec.ofChange Rows.topRingSpec) false w args)
      (Rows.topRingSpec.post enc Tryd.prog Tryd.f3 false true false false) := by
  refine returnsInHanded_of_change_and (C := Tryd.checked) (X := fun w _ => laidMetH Tryd.prog laid2 w) (fun _ _ _ hh h => h.of_heap hh) own started (by kernel_rfl) Tryd.func3
    (ChangeSpec.witness_shaped (enc := enc) (C := Tryd.checked) (os := os) (X := fun w _ => laidMetH Tryd.prog laid2 w) false (World.doorLaid Tryd.prog 4000 os) #[.int .u8 0, .int .i8 0, .int .i8 0, .slice none 0 0] 8 rfl (World.shaped_of_RefB (by kernel_rfl) (by kernel_rfl)) (by kernel_rfl) (by kernel_rfl) (by kernel_rfl) (door_met os _)) ?_
  intro W base args ds gs before hval0 hW _ _ hL _
  have hval : ∀ (j : Nat) t v, Tryd.f3.params[j]? = some t → args[j]? = some v → Value.okWide Tryd.prog W .any base t v := hval0
  have hW' := hW
  obtain ⟨p, q, hA0, hV, rfl, hfz, hnd⟩ := hW
  have hA : DataW.TrodAll enc Tryd.prog W 0 (fun _ => true) true Tryd.f3.params.toList args.toList ds p := hA0
  rw [Tryd.params3] at hA hval
  obtain ⟨v0, vs0, d0, ds0, p0, q0, hargs, rfl, rfl, h_0, hA1⟩ := trodAll_cons hA
  obtain ⟨v1, vs1, d1, ds1, p1, q1, rfl, rfl, rfl, h_1, hA2⟩ := trodAll_cons hA1
  obtain ⟨v2, vs2, d2, ds2, p2, q2, rfl, rfl, rfl, h_2, hA3⟩ := trodAll_cons hA2
  obtain ⟨v3, vs3, d3, ds3, p3, q3, rfl, rfl, rfl, h_3, hA4⟩ := trodAll_cons hA3
  obtain ⟨e1, rfl, rfl⟩ := trodAll_none hA4
  obtain rfl : vs3 = [] := congrArg Array.toList e1
  obtain ⟨rfl, rfl⟩ := trodVars_none hV
  clear hA0 hval0 hA hA1 hA2 hA3 hA4
  obtain ⟨args⟩ := args
  simp only at hargs
  subst hargs
  obtain ⟨hTab, hlt1⟩ := tab_of hL
  obtain ⟨z0, rfl, hz0⟩ := open_u8 (hval 0 5 v0 rfl rfl) h_0
  obtain ⟨z1, rfl, hz1⟩ := open_i8 (hval 1 22 v1 rfl rfl) h_1
  obtain ⟨z2, rfl, hz2⟩ := open_i8 (hval 2 22 v2 rfl rfl) h_2
  obtain ⟨ua3, m3, uc3, rfl, hR3, huc3, hum3⟩ := open_u16s (hval 3 23 v3 rfl rfl) h_3
  refine (topRing_any z0 z1 z2 ua3 m3 uc3 _ W hTab hlt1 hz0 hz1 hz2 hR3 hum3 (fun V h8 h9 => awake_any V h8 h9)).mono fun e W' ⟨he, hg⟩ => ?_
  subst he
  exact ⟨_, rfl, true_row (by kernel_rfl) rfl (by kernel_rfl) Tryd.underlying4 (by kernel_rfl) rfl hW' hg⟩
theorem over : Rows.TopRingSaid :=
  OpenClaim.holds_of_wide 3 Tryd.f3 rfl rfl rfl rfl rfl rfl rfl ⟨rfl, rfl, rfl, rfl, rfl⟩ rfl rfl rfl rfl rfl (by kernel_rfl) Tryd.func3 (by kernel_rfl)
    (of_decide_eq_true (by kernel_rfl)) (by unfold Func.isWrapper; rw [if_neg (of_decide_eq_false (by kernel_rfl))]; exact ⟨rfl, rfl⟩)
    (fun os started H enc _ => lifted os started H enc)
/-- The card. -/
theorem proved : Rows.TopRingCardSaid :=
  Claim7.holds_tied_plain_at .later [] [.data, .data] true (true, "509002de01827f5bb0163595df481d69453c6406bb540f0969ae04f859c64b74") false
    over (fun _ h => by cases h) (by kernel_rfl) (fun _ h => by cases h) topRing_row_tie rfl ⟨rfl, rfl⟩ (by kernel_rfl) rfl
    (fun f fn hf hfn => by
      obtain rfl : f = 3 := Option.some.inj ((show Tryd.prog.funcNamed "meterworks/meterworkstop.TopRing" = some 3 by kernel_rfl).symm.trans hf) |>.symm
      obtain rfl : fn = Tryd.f3 := (Option.some.inj (Tryd.func3.symm.trans hfn)).symm
      exact ⟨by kernel_rfl, fun j t ht => by
        rw [Tryd.params3] at ht
        have hm : t ∈ [5, 22, 22, 23] := by simpa using Array.mem_of_getElem? ht
        have hall : ([5, 22, 22, 23].all fun u => !Tryd.prog.wantsStandIn u) = true := by kernel_rfl
        exact (show Tryd.prog.wantsStandIn t = false by simpa using List.all_eq_true.1 hall t hm)⟩)
    (by kernel_rfl)
#print axioms proved
end Go.Proofs.YtlofopnjjeeehaaDoor.topRing
