/- Zone: ZoneLosses returns true. -/
import Derived.Test.YtipnaeijbbbdoaaR4
import Derived.Test.YtipnaeijbbbdoaaL0
namespace Go.Proofs.Ytipnaeijbbbdoaa
open Go.RowKit
theorem wrong_last {n : Nat} {z : Nat → Zon} {w w' : World} {e : Ending} (h : WrongP n z w e w') (hl : listB n z = true) (ha : ¬ AllR z n) : Below w.heap.size w w' ∧ ∃ k : Nat, k < n ∧ rs z n k = none ∧ (∀ j, k < j → j < n → (rs z n j).isSome = true) ∧ e = .returned (.tuple #[.int .i64 k, .int .i64 0]) := by
  obtain ⟨hb, ⟨h1, -⟩ | ⟨-, h1, -⟩ | ⟨-, h1⟩⟩ := h
  · rw [hl] at h1; cases h1
  · exact absurd h1 ha
  · exact ⟨hb, h1⟩
theorem last_uniq {n a b : Nat} {z : Nat → Zon} (ha : a < n) (hb : b < n) (ha1 : rs z n a = none) (hb1 : rs z n b = none) (ha2 : ∀ j, a < j → j < n → (rs z n j).isSome = true) (hb2 : ∀ j, b < j → j < n → (rs z n j).isSome = true) : a = b := by
  rcases Nat.lt_trichotomy a b with h | h | h
  · have := ha2 b h hb; rw [hb1] at this; cases this
  · exact h
  · have := hb2 a h ha; rw [ha1] at this; cases this
theorem spns_nil (w : World) (s : Nat → Spn) : SpnsAt w none 0 s := fun k hk => absurd hk (Nat.not_lt_zero k)
set_option maxRecDepth 100000 in
set_option maxHeartbeats 16000000 in
theorem zoneLosses_any (oa : Option Addr) (n ca : Nat) (z : Nat → Zon) (w : World) (hA : ZonsAt w oa n z) :
    Calls Try.prog 3 #[.slice oa n ca] w fun e w' => e = .returned (.bool true) ∧ Below w.heap.size w w' := by
  have HB := Lib.hid (Below.refl w.heap.size w)
  by_cases h16 : 16 < n
  · go_enter Try.func3, Try.ntmps3
    go_wp2_with fail
    refine (awake_any _).mono ?_
    rintro e wz ⟨rfl, hb⟩
    replace HB := Lib.hid (HB.out.trans (hb.mono HB.out.size))
    clear hb
    go_wp2_with fail
    go_ret
    exact ⟨rfl, HB.out⟩
  · have hn : n ≤ 1000000 := by omega
    have HA := Lib.hid (fun (V : World) (hV : Below w.heap.size w V) => hA.mono hV)
    clear hA
    have HC1 := Lib.hid (fun (V : World) (hV : Below w.heap.size w V) => own_any oa n ca z V hn (HA.out V hV))
    have HC2 := Lib.hid (fun (V : World) (hV : Below w.heap.size w V) => down_own_any oa n ca z V hn (HA.out V hV))
    have HC3 := Lib.hid (fun (V : World) (hV : Below w.heap.size w V) => losses_any oa n ca z V hn (HA.out V hV))
    have HC4 := Lib.hid (fun (V : World) (hV : Below w.heap.size w V) => dlosses_any oa n ca z V hn (HA.out V hV))
    have HC5 := Lib.hid (fun (V : World) (hV : Below w.heap.size w V) => wrong_any oa n ca z V hn (HA.out V hV))
    have HC6 := Lib.hid (fun (V : World) (hV : Below w.heap.size w V) => dwrong_any oa n ca z V hn (HA.out V hV))
    clear HA
    go_enter Try.func3, Try.ntmps3
    go_wp2_with fail
    clear h16
    refine (HC1.out _ HB.out).mono ?_
    intro e w1 hp
    cases hlb : listB n z
    · have HLB := Lib.hid hlb
      clear hlb
      obtain ⟨rfl, hb⟩ := own_no hp HLB.out
      replace HB := Lib.hid (HB.out.trans (hb.mono HB.out.size))
      clear hb hp HC1
      go_wp2_with fail
      refine (HC2.out _ HB.out).mono ?_
      intro e w2 hp
      obtain ⟨rfl, hb⟩ := own_no hp HLB.out
      replace HB := Lib.hid (HB.out.trans (hb.mono HB.out.size))
      clear hb hp HC2
      go_wp2_with fail
      refine (HC3.out _ HB.out).mono ?_
      intro e w3 hp
      obtain ⟨rfl, hb⟩ := loss_no hp HLB.out
      replace HB := Lib.hid (HB.out.trans (hb.mono HB.out.size))
      clear hb hp HC3
      go_wp2_with fail
      refine (HC4.out _ HB.out).mono ?_
      intro e w4 hp
      obtain ⟨rfl, hb⟩ := loss_no hp HLB.out
      replace HB := Lib.hid (HB.out.trans (hb.mono HB.out.size))
      clear hb hp HC4
      go_wp2_with fail
      refine (HC5.out _ HB.out).mono ?_
      intro e w5 hp
      obtain ⟨rfl, hb⟩ := wrong_no hp HLB.out
      replace HB := Lib.hid (HB.out.trans (hb.mono HB.out.size))
      clear hb hp HC5
      go_wp2_with fail
      refine (HC6.out _ HB.out).mono ?_
      intro e w6 hp
      obtain ⟨rfl, hb⟩ := wrong_no hp HLB.out
      replace HB := Lib.hid (HB.out.trans (hb.mono HB.out.size))
      clear hb hp HC6
      go_wp2_with fail
      refine (spans_any (none) (none) 0 (0) 0 (0) (T0) (T0) _ (by omega) (by omega) (spns_nil _ _) (spns_nil _ _)).mono ?_
      rintro e wz ⟨rfl, hb⟩
      rw [spnsB_yes fun i hi => rfl]
      replace HB := Lib.hid (HB.out.trans (hb.mono HB.out.size))
      clear hb
      go_wp2_with fail
      refine (spans_any (none) (none) 0 (0) 0 (0) (T0) (T0) _ (by omega) (by omega) (spns_nil _ _) (spns_nil _ _)).mono ?_
      rintro e wz ⟨rfl, hb⟩
      rw [spnsB_yes fun i hi => rfl]
      replace HB := Lib.hid (HB.out.trans (hb.mono HB.out.size))
      clear hb
      go_wp2_with fail
      refine (awake_any _).mono ?_
      rintro e wz ⟨rfl, hb⟩
      replace HB := Lib.hid (HB.out.trans (hb.mono HB.out.size))
      clear hb
      go_wp2_with fail
      go_ret
      exact ⟨rfl, HB.out⟩
    · have HLB := Lib.hid hlb
      clear hlb
      obtain ⟨hb, oA, cA, rfl, hs1, -⟩ := own_yes hp HLB.out
      replace HB := Lib.hid (HB.out.trans (hb.mono HB.out.size))
      have HS1 := Lib.hid hs1
      clear hb hp HC1 hs1
      go_wp2_with fail
      refine (HC2.out _ HB.out).mono ?_
      intro e w2 hp
      obtain ⟨hb, oC, cC, rfl, hs2, -⟩ := own_yes hp HLB.out
      replace HB := Lib.hid (HB.out.trans (hb.mono HB.out.size))
      replace HS1 := Lib.hid (HS1.out.mono hb)
      have HS2 := Lib.hid hs2
      clear hb hp HC2 hs2
      go_wp2_with fail
      refine (HC3.out _ HB.out).mono ?_
      intro e w3 hp
      by_cases hall : AllR z n
      · have HAL := Lib.hid hall
        clear hall
        obtain ⟨hb, oE, cE, rfl, hs3, -⟩ := loss_all hp HLB.out HAL.out
        replace HB := Lib.hid (HB.out.trans (hb.mono HB.out.size))
        replace HS1 := Lib.hid (HS1.out.mono hb)
        replace HS2 := Lib.hid (HS2.out.mono hb)
        have HS3 := Lib.hid hs3
        clear hb hp HC3 hs3
        go_wp2_with fail
        refine (HC4.out _ HB.out).mono ?_
        intro e w4 hp
        obtain ⟨hb, oG, cG, rfl, hs4, -⟩ := loss_all hp HLB.out HAL.out
        replace HB := Lib.hid (HB.out.trans (hb.mono HB.out.size))
        replace HS1 := Lib.hid (HS1.out.mono hb)
        replace HS2 := Lib.hid (HS2.out.mono hb)
        replace HS3 := Lib.hid (HS3.out.mono hb)
        have HS4 := Lib.hid hs4
        clear hb hp HC4 hs4
        go_wp2_with fail
        refine (HC5.out _ HB.out).mono ?_
        intro e w5 hp
        obtain ⟨rfl, hb⟩ := wrong_all hp HLB.out HAL.out
        replace HB := Lib.hid (HB.out.trans (hb.mono HB.out.size))
        replace HS1 := Lib.hid (HS1.out.mono hb)
        replace HS2 := Lib.hid (HS2.out.mono hb)
        replace HS3 := Lib.hid (HS3.out.mono hb)
        replace HS4 := Lib.hid (HS4.out.mono hb)
        clear hb hp HC5
        go_wp2_with fail
        refine (HC6.out _ HB.out).mono ?_
        intro e w6 hp
        obtain ⟨rfl, hb⟩ := wrong_all hp HLB.out HAL.out
        replace HB := Lib.hid (HB.out.trans (hb.mono HB.out.size))
        replace HS1 := Lib.hid (HS1.out.mono hb)
        replace HS2 := Lib.hid (HS2.out.mono hb)
        replace HS3 := Lib.hid (HS3.out.mono hb)
        replace HS4 := Lib.hid (HS4.out.mono hb)
        clear hb hp HC6
        go_wp2_with fail
        refine (spans_any (oA) (oC) n (cA) n (cC) (fun i => ownS (z i)) (fun i => ownS (z i)) _ (by omega) (by omega) (HS1.out) (HS2.out)).mono ?_
        rintro e wz ⟨rfl, hb⟩
        rw [spnsB_yes fun i hi => rfl]
        replace HB := Lib.hid (HB.out.trans (hb.mono HB.out.size))
        replace HS3 := Lib.hid (HS3.out.mono hb)
        replace HS4 := Lib.hid (HS4.out.mono hb)
        clear hb
        go_wp2_with fail
        refine (spans_any (oE) (oG) n (cE) n (cG) (dnF z n) (dnF z n) _ (by omega) (by omega) (HS3.out) (HS4.out)).mono ?_
        rintro e wz ⟨rfl, hb⟩
        rw [spnsB_yes fun i hi => rfl]
        replace HB := Lib.hid (HB.out.trans (hb.mono HB.out.size))
        clear hb
        go_wp2_with fail
        refine (awake_any _).mono ?_
        rintro e wz ⟨rfl, hb⟩
        replace HB := Lib.hid (HB.out.trans (hb.mono HB.out.size))
        clear hb
        go_wp2_with fail
        go_ret
        exact ⟨rfl, HB.out⟩
      · have HAL := Lib.hid hall
        clear hall
        obtain ⟨rfl, hb⟩ := loss_none hp HLB.out HAL.out
        replace HB := Lib.hid (HB.out.trans (hb.mono HB.out.size))
        replace HS1 := Lib.hid (HS1.out.mono hb)
        replace HS2 := Lib.hid (HS2.out.mono hb)
        clear hb hp HC3
        go_wp2_with fail
        refine (HC4.out _ HB.out).mono ?_
        intro e w4 hp
        obtain ⟨rfl, hb⟩ := loss_none hp HLB.out HAL.out
        replace HB := Lib.hid (HB.out.trans (hb.mono HB.out.size))
        replace HS1 := Lib.hid (HS1.out.mono hb)
        replace HS2 := Lib.hid (HS2.out.mono hb)
        clear hb hp HC4
        go_wp2_with fail
        refine (HC5.out _ HB.out).mono ?_
        intro e w5 hp
        obtain ⟨hb, a, ha, ha1, ha2, rfl⟩ := wrong_last hp HLB.out HAL.out
        replace HB := Lib.hid (HB.out.trans (hb.mono HB.out.size))
        replace HS1 := Lib.hid (HS1.out.mono hb)
        replace HS2 := Lib.hid (HS2.out.mono hb)
        have HU := Lib.hid (show ∀ c, c < n → rs z n c = none → (∀ j, c < j → j < n → (rs z n j).isSome = true) → c = a from fun c hc hc1 hc2 => last_uniq hc ha hc1 ha1 hc2 ha2)
        clear hb hp HC5 ha ha1 ha2
        go_wp2_with fail
        refine (HC6.out _ HB.out).mono ?_
        intro e w6 hp
        obtain ⟨hb, c, hc, hc1, hc2, rfl⟩ := wrong_last hp HLB.out HAL.out
        obtain rfl := HU.out c hc hc1 hc2
        replace HB := Lib.hid (HB.out.trans (hb.mono HB.out.size))
        replace HS1 := Lib.hid (HS1.out.mono hb)
        replace HS2 := Lib.hid (HS2.out.mono hb)
        clear hb hp HC6 hc hc1 hc2 HU
        go_wp2_with fail
        refine (spans_any (oA) (oC) n (cA) n (cC) (fun i => ownS (z i)) (fun i => ownS (z i)) _ (by omega) (by omega) (HS1.out) (HS2.out)).mono ?_
        rintro e wz ⟨rfl, hb⟩
        rw [spnsB_yes fun i hi => rfl]
        replace HB := Lib.hid (HB.out.trans (hb.mono HB.out.size))
        clear hb
        go_wp2_with fail
        refine (spans_any (none) (none) 0 (0) 0 (0) (T0) (T0) _ (by omega) (by omega) (spns_nil _ _) (spns_nil _ _)).mono ?_
        rintro e wz ⟨rfl, hb⟩
        rw [spnsB_yes fun i hi => rfl]
        replace HB := Lib.hid (HB.out.trans (hb.mono HB.out.size))
        clear hb
        go_wp2_with fail
        refine (awake_any _).mono ?_
        rintro e wz ⟨rfl, hb⟩
        replace HB := Lib.hid (HB.out.trans (hb.mono HB.out.size))
        clear hb
        go_wp2_with fail
        go_ret
        exact ⟨rfl, HB.out⟩
end Go.Proofs.Ytipnaeijbbbdoaa
