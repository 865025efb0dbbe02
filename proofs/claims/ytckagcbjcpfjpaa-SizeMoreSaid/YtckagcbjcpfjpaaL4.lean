/- The walk of SizeChooses, given what alive comes to. -/
import Derived.Test.YtckagcbjcpfjpaaR9
import Derived.Test.YtckagcbjcpfjpaaMono
namespace Go.Proofs.Ytckagcbjcpfjpaa
open Go.RowKit
/-- what Least says: r and c -/
def LeastIs (h : House) (loss : Int) (r c : Nat) : Prop :=
  if h.valid then (if withinB loss 0 10000 then ((c = 4 ∧ r = 0 ∧ h.fullB (sizeOf loss 999999) = false) ∨ (c = 0 ∧ 1 ≤ r ∧ r ≤ 1000000 ∧ h.fullB (sizeOf loss (r - 1)) = true ∧ (1 < r → h.fullB (sizeOf loss (r - 2)) = false))) else c = 2 ∧ r = 0) else c = 1 ∧ r = 0
theorem leastIs_one {h : House} {loss : Int} {r c q d : Nat} (h1 : LeastIs h loss r c) (h2 : LeastIs h loss q d) : r = q ∧ c = d := by
  unfold LeastIs at h1 h2
  by_cases hv : h.valid = true
  · rw [if_pos hv] at h1 h2
    by_cases hl : withinB loss 0 10000 = true
    · rw [if_pos hl] at h1 h2
      have hl0 : 0 ≤ loss := by simp only [withinB, decide_eq_true_eq] at hl; exact hl.1
      rcases h1 with ⟨rfl, rfl, a1⟩ | ⟨rfl, a1, a2, a3, a4⟩ <;> rcases h2 with ⟨rfl, rfl, b1⟩ | ⟨rfl, b1, b2, b3, b4⟩
      · exact ⟨rfl, rfl⟩
      · have := fullB_mono h loss hl0 (i := q - 1) (j := 999999) (by omega) b3
        rw [a1] at this; cases this
      · have := fullB_mono h loss hl0 (i := r - 1) (j := 999999) (by omega) a3
        rw [b1] at this; cases this
      · exact ⟨least_eq h loss hl0 a3 a4 a1 b1 b3 b4, rfl⟩
    · rw [if_neg hl] at h1 h2
      exact ⟨h1.2.trans h2.2.symm, h1.1.trans h2.1.symm⟩
  · rw [if_neg hv] at h1 h2
    exact ⟨h1.2.trans h2.2.symm, h1.1.trans h2.1.symm⟩
set_option maxHeartbeats 4000000 in
theorem chooses_of (halive : ∀ w, Calls Try.prog 13 #[] w (TrueEnd w)) (h : House) (loss : Int) (ta ra oa : Option Addr) (tc rc n cap : Nat) (t : Nat → Meter) (w : World) (hT : TapsAt w ta h.nt h.t) (hR : RulesAt w ra h.nr h.r) (hM : MetersAt w oa n t) :
    Calls Try.prog 4 #[houseV h ta ra tc rc, .slice oa n cap, .int .i64 loss] w (TrueEnd w) := by
  have HA := Lib.hid halive
  have HT := Lib.hid hT
  have HR := Lib.hid hR
  have HM := Lib.hid hM
  clear halive hT hR hM
  go_enter Try.func4, Try.ntmps4
  go_wp2_with fail
  refine (great_any h 7 ta ra tc rc _).mono ?_
  rintro e w1 ⟨rfl, hb1⟩
  have KH := Lib.hid ((HB.new h ta ra tc rc w).below hb1)
  have hbw : Below w.heap.size w w1 := Below.trans (by repeat' (first | exact Below.refl _ _ | assumption | apply below_drewN | apply Below.drew | (refine Below.alloc ?_ ?_ _) | (refine Below.setCell ?_ ?_ _) | (simp; done) | (simp; omega) | omega)) (hb1.mono (by simp))
  clear hb1
  by_cases hg : greatB h.nt h.nr 7 = true
  · rw [hg]
    go_wp2_with fail
    refine (HA.out _).mono ?_
    rintro e w2 ⟨rfl, hb2⟩
    go_wp2
    go_ret
    exact ⟨rfl, hbw.trans (hb2.mono hbw.size)⟩
  · replace hg : greatB h.nt h.nr 7 = false := by simpa using hg
    have g1 : h.nt ≤ 1000000 := by have := great_no hg; omega
    have g2 : h.nr ≤ 1000000 := by have := great_no hg; omega
    rw [hg]
    by_cases hn : (18 : Int) < (n : Int)
    · go_wp2_with fail
      refine (HA.out _).mono ?_
      rintro e w2 ⟨rfl, hb2⟩
      go_wp2
      go_ret
      exact ⟨rfl, hbw.trans (hb2.mono hbw.size)⟩
    · have g3 : n ≤ 1000000 := by omega
      obtain ⟨a0, a1, a2, a3, als⟩ := KH.out
      go_wp2_with fail
      refine (Choose_any h ta ra oa tc rc n cap t _ g1 g2 g3 (HT.out.mono hbw) (HR.out.mono hbw) (HM.out.mono hbw)).mono ?_
      rintro e w2 ⟨rfl, hb2⟩
      have KH2 := Lib.hid (KH.out.below hb2)
      have hbw2 := hbw.trans (hb2.mono hbw.size)
      clear a0 a1 a2 a3 als hb2
      obtain ⟨a0, a1, a2, a3, als⟩ := KH2.out
      go_wp2_with fail
      refine (refChoose_any h ta ra oa tc rc n cap t _ g1 g2 g3 (HT.out.mono hbw2) (HR.out.mono hbw2) (HM.out.mono hbw2)).mono ?_
      rintro e w3 ⟨rfl, hb3⟩
      have KH3 := Lib.hid (KH2.out.below hb3)
      have hbw3 := hbw2.trans (hb3.mono hbw2.size)
      clear a0 a1 a2 a3 als hb3
      obtain ⟨a0, a1, a2, a3, als⟩ := KH3.out
      go_wp2_with fail
      refine (Pair_any h ta ra oa tc rc n cap t _ g1 g2 g3 (HT.out.mono hbw3) (HR.out.mono hbw3) (HM.out.mono hbw3)).mono ?_
      rintro e w4 ⟨rfl, hb4⟩
      have KH4 := Lib.hid (KH3.out.below hb4)
      have hbw4 := hbw3.trans (hb4.mono hbw3.size)
      clear a0 a1 a2 a3 als hb4
      obtain ⟨a0, a1, a2, a3, als⟩ := KH4.out
      go_wp2_with fail
      refine (refPair_any h ta ra oa tc rc n cap t _ g1 g2 g3 (HT.out.mono hbw4) (HR.out.mono hbw4) (HM.out.mono hbw4)).mono ?_
      rintro e w5 ⟨rfl, hb5⟩
      have KH5 := Lib.hid (KH4.out.below hb5)
      have hbw5 := hbw4.trans (hb5.mono hbw4.size)
      clear a0 a1 a2 a3 als hb5
      obtain ⟨a0, a1, a2, a3, als⟩ := KH5.out
      go_wp2_with fail
      refine (Least_any h loss ta ra tc rc _ g1 g2 (HT.out.mono hbw5) (HR.out.mono hbw5)).mono ?_
      rintro e w6 ⟨r, c, rfl, hb6, hL1⟩
      have KH6 := Lib.hid (KH5.out.below hb6)
      have hbw6 := hbw5.trans (hb6.mono hbw5.size)
      have L1 := Lib.hid (show LeastIs h loss r c from hL1)
      clear a0 a1 a2 a3 als hb6 hL1
      obtain ⟨a0, a1, a2, a3, als⟩ := KH6.out
      go_wp2_with fail
      refine (refLeast_any h loss ta ra tc rc _ g1 g2 (HT.out.mono hbw6) (HR.out.mono hbw6)).mono ?_
      rintro e w7 ⟨q, d, rfl, hb7, hL2⟩
      obtain ⟨rfl, rfl⟩ := leastIs_one L1.out hL2
      have hbw7 := hbw6.trans (hb7.mono hbw6.size)
      clear a0 a1 a2 a3 als hb7 hL2
      go_wp2_with fail
      refine (HA.out _).mono ?_
      rintro e w8 ⟨rfl, hb8⟩
      go_wp2
      go_ret
      exact ⟨rfl, hbw7.trans (hb8.mono hbw7.size)⟩
end Go.Proofs.Ytckagcbjcpfjpaa
