/- Zone: ZoneLeaks returns true. -/
import Derived.Test.YtipnaeijbbbdoaaR5
import Derived.Test.YtipnaeijbbbdoaaL3
namespace Go.Proofs.Ytipnaeijbbbdoaa
open Go.RowKit
/-- the two answers of First, the same in both documents -/
theorem firstP_cases {n m : Nat} {z : Nat → Zon} {u : Nat → Nig} {w w' : World} {e : Ending} (h : FirstP n m z u w e w') :
    Below w.heap.size w w' ∧ ∃ x c : Int, e = .returned (.tuple #[.int .i64 x, .int .i64 c]) ∧ ∀ {v v' : World} {e' : Ending}, FirstP n m z u v e' v' → Below v.heap.size v v' ∧ e' = .returned (.tuple #[.int .i64 x, .int .i64 c]) := by
  obtain ⟨hb, ⟨h1, rfl⟩ | ⟨h1, h2, rfl⟩ | ⟨h1, h2, most, x, c, rfl, h3⟩⟩ := h
  · refine ⟨hb, _, _, rfl, fun hp => ?_⟩
    obtain ⟨kb, ⟨k1, k2⟩ | ⟨k1, k2, k3⟩ | ⟨k1, k2, k3⟩⟩ := hp
    · exact ⟨kb, k2⟩
    · exact absurd k1 h1
    · exact absurd k1 h1
  · refine ⟨hb, _, _, rfl, fun hp => ?_⟩
    obtain ⟨kb, ⟨k1, k2⟩ | ⟨k1, k2, k3⟩ | ⟨k1, k2, k3⟩⟩ := hp
    · exact absurd h1 k1
    · exact ⟨kb, k3⟩
    · exact absurd k2 h2
  · refine ⟨hb, _, _, rfl, fun hp => ?_⟩
    obtain ⟨kb, ⟨k1, k2⟩ | ⟨k1, k2, k3⟩ | ⟨k1, k2, most', x', c', rfl, k3⟩⟩ := hp
    · exact absurd h1 k1
    · exact absurd h2 k2
    · obtain ⟨rfl, rfl⟩ := FstS.uniq h3 k3
      exact ⟨kb, rfl⟩
set_option maxRecDepth 100000 in
set_option maxHeartbeats 16000000 in
theorem zoneLeaks_any (oa : Option Addr) (n ca : Nat) (z : Nat → Zon) (ob : Option Addr) (m cb : Nat) (u : Nat → Nig) (w : World) (hA : ZonsAt w oa n z) (hU : NigsAt w ob m u) :
    Calls Try.prog 4 #[.slice oa n ca, .slice ob m cb] w fun e w' => e = .returned (.bool true) ∧ Below w.heap.size w w' := by
  have HB := Lib.hid (Below.refl w.heap.size w)
  by_cases h16 : 16 < n
  · have hg : decide ((16 : Int) < (n : Int)) = true := decide_eq_true (by omega)
    go_enter Try.func4, Try.ntmps4
    go_wp2_with fail
    refine (awake_any _).mono ?_
    rintro e wz ⟨rfl, hb⟩
    replace HB := Lib.hid (HB.out.trans (hb.mono HB.out.size))
    clear hb
    go_wp2_with fail
    go_ret
    exact ⟨rfl, HB.out⟩
  · have hg : decide ((16 : Int) < (n : Int)) = false := decide_eq_false (by omega)
    by_cases h20 : 20 < m
    · have hg2 : decide ((20 : Int) < (m : Int)) = true := decide_eq_true (by omega)
      go_enter Try.func4, Try.ntmps4
      go_wp2_with fail
      refine (awake_any _).mono ?_
      rintro e wz ⟨rfl, hb⟩
      replace HB := Lib.hid (HB.out.trans (hb.mono HB.out.size))
      clear hb
      go_wp2_with fail
      go_ret
      exact ⟨rfl, HB.out⟩
    · have hg2 : decide ((20 : Int) < (m : Int)) = false := decide_eq_false (by omega)
      have HC1 := Lib.hid (fun (V : World) (hV : Below w.heap.size w V) => leaks_any oa ob n ca m cb z u V (by omega) (by omega) (hA.mono hV) (hU.mono hV))
      have HC2 := Lib.hid (fun (V : World) (hV : Below w.heap.size w V) => dleaks_any oa ob n ca m cb z u V (by omega) (by omega) (hA.mono hV) (hU.mono hV))
      have HC3 := Lib.hid (fun (V : World) (hV : Below w.heap.size w V) => first_any oa ob n ca m cb z u V (by omega) (by omega) (hA.mono hV) (hU.mono hV))
      have HC4 := Lib.hid (fun (V : World) (hV : Below w.heap.size w V) => dfirst_any oa ob n ca m cb z u V (by omega) (by omega) (hA.mono hV) (hU.mono hV))
      have hn : n ≤ 16 := by omega
      clear hA hU
      go_enter Try.func4, Try.ntmps4
      go_wp2_with fail
      clear h16 h20 hg hg2
      refine (HC1.out _ HB.out).mono ?_
      intro e w1 hp
      obtain ⟨hb, ⟨hc, -, -, rfl⟩ | ⟨hc, -, -, -, oA, cA, rfl, hs1, -⟩⟩ := leakP_cases hp
      · have HC := Lib.hid hc
        replace HB := Lib.hid (HB.out.trans (hb.mono HB.out.size))
        clear hb hp HC1 hc
        obtain ⟨d, hd⟩ : ∃ d, d = leakC n m z u := ⟨_, rfl⟩
        rw [← hd]
        have HD := Lib.hid hd
        clear hd
        go_wp2_with fail
        refine (HC2.out _ HB.out).mono ?_
        intro e w2 hp
        obtain ⟨hb, ⟨-, -, -, rfl⟩ | ⟨hc2, -⟩⟩ := leakP_cases hp
        · rw [← HD.out]
          replace HB := Lib.hid (HB.out.trans (hb.mono HB.out.size))
          clear hb hp HC2
          go_wp2_with fail
          refine (HC3.out _ HB.out).mono ?_
          intro e w3 hp
          obtain ⟨hb, x, c, rfl, hq⟩ := firstP_cases hp
          replace HB := Lib.hid (HB.out.trans (hb.mono HB.out.size))
          have HF := Lib.hid (show ∀ (v v' : World) (e' : Ending), FirstP n m z u v e' v' → Below v.heap.size v v' ∧ e' = .returned (.tuple #[.int .i64 x, .int .i64 c]) from fun _ _ _ h => hq h)
          clear hp hq HC3 hb
          go_wp2_with fail
          refine (HC4.out _ HB.out).mono ?_
          intro e w4 hp
          obtain ⟨hb, rfl⟩ := HF.out _ _ _ hp
          replace HB := Lib.hid (HB.out.trans (hb.mono HB.out.size))
          clear HF hp HC4
          clear hb
          go_wp2_with fail
          refine (spans_any (none) (none) 0 (0) 0 (0) (T0) (T0) _ (by omega) (by omega) (spns_nil _ _) (spns_nil _ _)).mono ?_
          rintro e wz ⟨rfl, hb⟩
          rw [spnsB_yes fun i hi => rfl]
          replace HB := Lib.hid (HB.out.trans (hb.mono HB.out.size))
          clear hb
          go_wp2_with fail
          refine (awake_any _).mono ?_
          rintro e wz ⟨rfl, hb⟩
          replace HB := Lib.hid (HB.out.trans (hb.mono HB.out.size))
          clear hb
          go_wp2_with fail
          go_ret
          exact ⟨rfl, HB.out⟩
        · exact absurd hc2 HC.out
      · have HC := Lib.hid hc
        replace HB := Lib.hid (HB.out.trans (hb.mono HB.out.size))
        have HS1 := Lib.hid hs1
        clear hb hp HC1 hc hs1
        go_wp2_with fail
        refine (HC2.out _ HB.out).mono ?_
        intro e w2 hp
        obtain ⟨hb, ⟨hc2, -⟩ | ⟨-, -, -, -, oC, cC, rfl, hs2, -⟩⟩ := leakP_cases hp
        · exact absurd HC.out hc2
        · skip
          replace HB := Lib.hid (HB.out.trans (hb.mono HB.out.size))
          replace HS1 := Lib.hid (HS1.out.mono hb)
          have HS2 := Lib.hid hs2
          clear hb hp HC2 hs2
          go_wp2_with fail
          refine (HC3.out _ HB.out).mono ?_
          intro e w3 hp
          obtain ⟨hb, x, c, rfl, hq⟩ := firstP_cases hp
          replace HB := Lib.hid (HB.out.trans (hb.mono HB.out.size))
          replace HS1 := Lib.hid (HS1.out.mono hb)
          replace HS2 := Lib.hid (HS2.out.mono hb)
          have HF := Lib.hid (show ∀ (v v' : World) (e' : Ending), FirstP n m z u v e' v' → Below v.heap.size v v' ∧ e' = .returned (.tuple #[.int .i64 x, .int .i64 c]) from fun _ _ _ h => hq h)
          clear hp hq HC3 hb
          go_wp2_with fail
          refine (HC4.out _ HB.out).mono ?_
          intro e w4 hp
          obtain ⟨hb, rfl⟩ := HF.out _ _ _ hp
          replace HB := Lib.hid (HB.out.trans (hb.mono HB.out.size))
          clear HF hp HC4
          replace HS1 := Lib.hid (HS1.out.mono hb)
          replace HS2 := Lib.hid (HS2.out.mono hb)
          clear hb
          go_wp2_with fail
          refine (spans_any (oA) (oC) n (cA) n (cC) (fun i => leakS (u i)) (fun i => leakS (u i)) _ (by omega) (by omega) (HS1.out) (HS2.out)).mono ?_
          rintro e wz ⟨rfl, hb⟩
          rw [spnsB_yes fun i hi => rfl]
          replace HB := Lib.hid (HB.out.trans (hb.mono HB.out.size))
          clear hb
          go_wp2_with fail
          refine (awake_any _).mono ?_
          rintro e wz ⟨rfl, hb⟩
          replace HB := Lib.hid (HB.out.trans (hb.mono HB.out.size))
          clear hb
          go_wp2_with fail
          go_ret
          exact ⟨rfl, HB.out⟩
end Go.Proofs.Ytipnaeijbbbdoaa
