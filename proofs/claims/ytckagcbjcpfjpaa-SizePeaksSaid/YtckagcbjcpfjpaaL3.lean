/- The walk of SizePeaks, given what alive comes to. -/
import Derived.Test.YtckagcbjcpfjpaaPk
namespace Go.Proofs.Ytckagcbjcpfjpaa
open Go.RowKit
set_option maxHeartbeats 4000000 in
theorem peaks_of (halive : ∀ w, Calls Try.prog 13 #[] w (TrueEnd w)) (h : House) (m : Meter) (ta ra : Option Addr) (tc rc : Nat) (w : World) (hT : TapsAt w ta h.nt h.t) (hR : RulesAt w ra h.nr h.r) :
    Calls Try.prog 3 #[houseV h ta ra tc rc, m.val] w (TrueEnd w) := by
  have HA := Lib.hid halive
  have HT := Lib.hid hT
  have HR := Lib.hid hR
  clear halive hT hR
  go_enter Try.func3, Try.ntmps3
  go_wp2_with fail
  refine (great_any h 10 ta ra tc rc _).mono ?_
  rintro e w1 ⟨rfl, hb1⟩
  have KH := Lib.hid (((HB.new h ta ra tc rc w).below (below_alloc1 _ (.cells #[.int .i64 m.start, .int .i64 m.full, .int .i64 m.loss, .int .i64 m.price] 27))).below hb1)
  have KM := Lib.hid ((MB.new m (w.alloc (.cells #[.int .i64 h.head, .int .i64 h.drip, .slice ta h.nt tc, .slice ra h.nr rc] 25))).below hb1)
  simp only [World.size_alloc] at KM
  have hbw : Below w.heap.size w w1 := Below.trans (by repeat' (first | exact Below.refl _ _ | assumption | apply below_drewN | apply Below.drew | (refine Below.alloc ?_ ?_ _) | (refine Below.setCell ?_ ?_ _) | (simp; done) | (simp; omega) | omega)) (hb1.mono (by simp; omega))
  clear hb1
  by_cases hg : greatB h.nt h.nr 10 = true
  · rw [hg]
    go_wp2_with fail
    refine (HA.out _).mono ?_
    rintro e w2 ⟨rfl, hb2⟩
    go_wp2
    go_ret
    exact ⟨rfl, hbw.trans (hb2.mono hbw.size)⟩
  · replace hg : greatB h.nt h.nr 10 = false := by simpa using hg
    have g1 : h.nt ≤ 1000000 := by have := great_no hg; omega
    have g2 : h.nr ≤ 1000000 := by have := great_no hg; omega
    rw [hg]
    obtain ⟨a0, a1, a2, a3, als⟩ := KH.out
    go_wp2_with fail
    refine (peak_all h ta ra tc rc _ g1 g2 (HT.out.mono hbw) (HR.out.mono hbw)).mono ?_
    rintro e w2 ⟨rfl, hb2⟩
    have hbw2 := hbw.trans (hb2.mono hbw.size)
    have KH2 := Lib.hid (KH.out.below hb2)
    have KM2 := Lib.hid (KM.out.below hb2)
    clear a0 a1 a2 a3 als hb2
    obtain ⟨a0, a1, a2, a3, als⟩ := KH2.out
    have hne : ¬ w.heap.size = w2.heap.size := by omega
    go_wp2_with fail
    have hbA := hbw2.alloc hbw2.size (.cells #[.int .i64 h.peakR.1, .int .i64 h.peakR.2.1] 31)
    refine (refPeak_all h ta ra tc rc _ g1 g2 (HT.out.mono hbA) (HR.out.mono hbA)).mono ?_
    rintro e w3 ⟨rfl, hb3⟩
    have T1 := Lib.hid ((TB.new h.peakR.1 h.peakR.2.1 w2).below hb3)
    have hbw3 := hbA.trans (hb3.mono hbA.size)
    have KH3 := Lib.hid ((KH2.out.below (below_alloc1 _ _)).below hb3)
    have KM3 := Lib.hid ((KM2.out.below (below_alloc1 _ _)).below hb3)
    have hs3 := hb3.size
    simp only [World.size_alloc] at hs3
    clear a0 a1 a2 a3 als hb3
    obtain ⟨a0, a1, a2, a3, als⟩ := KH3.out
    obtain ⟨c0, c1, c2, c3, cls⟩ := KM3.out
    have hne2 : ¬ w.heap.size = w3.heap.size := by omega
    have hne3 : ¬ w.heap.size + 1 = w3.heap.size := by omega
    have hne4 : ¬ w2.heap.size = w3.heap.size := by omega
    go_wp2_with fail
    have hbB := hbw3.alloc hbw3.size (.cells #[.int .i64 h.peakR.1, .int .i64 h.peakR.2.1] 31)
    refine (Starved_any h m ta ra tc rc _ g1 g2 (HT.out.mono hbB) (HR.out.mono hbB)).mono ?_
    rintro e w4 ⟨rfl, hb4⟩
    have T2 := Lib.hid ((TB.new h.peakR.1 h.peakR.2.1 w3).below hb4)
    have T1' := Lib.hid ((T1.out.below (below_alloc1 _ _)).below hb4)
    have hbw4 := hbB.trans (hb4.mono hbB.size)
    have KH4 := Lib.hid ((KH3.out.below (below_alloc1 _ _)).below hb4)
    have KM4 := Lib.hid ((KM3.out.below (below_alloc1 _ _)).below hb4)
    clear a0 a1 a2 a3 als c0 c1 c2 c3 cls hb4
    obtain ⟨a0, a1, a2, a3, als⟩ := KH4.out
    obtain ⟨c0, c1, c2, c3, cls⟩ := KM4.out
    go_wp2_with fail
    refine (refStarved_any h m ta ra tc rc _ g1 g2 (HT.out.mono hbw4) (HR.out.mono hbw4)).mono ?_
    rintro e w5 ⟨rfl, hb5⟩
    obtain ⟨s0, s1, -⟩ := T1'.out.below hb5
    obtain ⟨t0, t1, -⟩ := T2.out.below hb5
    have hbw5 := hbw4.trans (hb5.mono hbw4.size)
    clear a0 a1 a2 a3 als c0 c1 c2 c3 cls hb5
    go_wp2_with fail
    refine (HA.out _).mono ?_
    rintro e w6 ⟨rfl, hb6⟩
    go_wp2
    go_ret
    exact ⟨rfl, hbw5.trans (hb6.mono hbw5.size)⟩
end Go.Proofs.Ytckagcbjcpfjpaa
