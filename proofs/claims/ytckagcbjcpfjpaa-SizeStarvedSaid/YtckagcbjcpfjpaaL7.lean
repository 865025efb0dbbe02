/- The walk of SizeStarved, given what alive comes to. -/
import Derived.Test.YtckagcbjcpfjpaaS7
namespace Go.Proofs.Ytckagcbjcpfjpaa
open Go.RowKit
set_option maxHeartbeats 4000000 in
theorem starved_of (halive : ∀ w, Calls Try.prog 13 #[] w (TrueEnd w)) (h : House) (m : Meter) (b : Nat) (hb9 : b < 65536) (ta ra : Option Addr) (tc rc : Nat) (w : World) (hT : TapsAt w ta h.nt h.t) (hR : RulesAt w ra h.nr h.r) :
    Calls Try.prog 7 #[houseV h ta ra tc rc, m.val, .int .u16 (b : Nat)] w (TrueEnd w) := by
  have HA := Lib.hid halive
  have HT := Lib.hid hT
  have HR := Lib.hid hR
  clear halive hT hR
  go_enter Try.func7, Try.ntmps7
  go_wp2_with fail
  refine (great_any h 10 ta ra tc rc _).mono ?_
  rintro e w1 ⟨rfl, hb1⟩
  have KH := Lib.hid (((HB.new h ta ra tc rc w).below (below_alloc1 _ (.cells #[.int .i64 m.start, .int .i64 m.full, .int .i64 m.loss, .int .i64 m.price] 27))).below hb1)
  have KM := Lib.hid ((MB.new m (w.alloc (.cells #[.int .i64 h.head, .int .i64 h.drip, .slice ta h.nt tc, .slice ra h.nr rc] 25))).below hb1)
  simp only [World.size_alloc] at KM
  have hbw : Below w.heap.size w w1 := Below.trans (by repeat' (first | exact Below.refl _ _ | assumption | apply below_drewN | apply Below.drew | (refine Below.alloc ?_ ?_ _) | (refine Below.setCell ?_ ?_ _) | (simp; done) | (simp; omega) | omega)) (hb1.mono (by simp; omega))
  clear hb1
  by_cases hg : greatB h.nt h.nr 10 = true
  · rw [hg]
    go_wp2_with fail
    refine (HA.out _).mono ?_
    rintro e w2 ⟨rfl, hb2⟩
    go_wp2
    go_ret
    exact ⟨rfl, hbw.trans (hb2.mono hbw.size)⟩
  · replace hg : greatB h.nt h.nr 10 = false := by simpa using hg
    have g1 : h.nt ≤ 1000000 := by have := great_no hg; omega
    have g2 : h.nr ≤ 1000000 := by have := great_no hg; omega
    rw [hg]
    obtain ⟨a0, a1, a2, a3, als⟩ := KH.out
    obtain ⟨c0, c1, c2, c3, cls⟩ := KM.out
    go_wp2_with fail
    refine (Starved_any h m ta ra tc rc _ g1 g2 (HT.out.mono hbw) (HR.out.mono hbw)).mono ?_
    rintro e w2 ⟨rfl, hb2⟩
    have hbw2 := hbw.trans (hb2.mono hbw.size)
    have KH2 := Lib.hid (KH.out.below hb2)
    have KM2 := Lib.hid (KM.out.below hb2)
    clear a0 a1 a2 a3 als c0 c1 c2 c3 cls hb2
    obtain ⟨a0, a1, a2, a3, als⟩ := KH2.out
    obtain ⟨c0, c1, c2, c3, cls⟩ := KM2.out
    by_cases hv : h.valid = true
    · have HV := Lib.hid hv
      go_wp2_with fail
      refine (refHouse_any h ta ra tc rc _ g1 g2 (HT.out.mono hbw2) (HR.out.mono hbw2)).mono ?_
      rintro e w3 ⟨rfl, hb3⟩
      rw [hv]
      have hbw3 := hbw2.trans (hb3.mono hbw2.size)
      have KH3 := Lib.hid (KH2.out.below hb3)
      have KM3 := Lib.hid (KM2.out.below hb3)
      clear a0 a1 a2 a3 als c0 c1 c2 c3 cls hb3 hv
      obtain ⟨a0, a1, a2, a3, als⟩ := KH3.out
      obtain ⟨c0, c1, c2, c3, cls⟩ := KM3.out
      go_wp2_with fail
      refine (refSize_any m _).mono ?_
      rintro e w4 ⟨rfl, hb4⟩
      have hbw4 := hbw3.trans (hb4.mono hbw3.size)
      have KH4 := Lib.hid (KH3.out.below hb4)
      have KM4 := Lib.hid (KM3.out.below hb4)
      clear a0 a1 a2 a3 als c0 c1 c2 c3 cls hb4
      obtain ⟨a0, a1, a2, a3, als⟩ := KH4.out
      obtain ⟨c0, c1, c2, c3, cls⟩ := KM4.out
      by_cases hm : m.valid = true
      · have HM := Lib.hid hm
        rw [hm]
        clear hm
        have hown := setBy_lt h b h.nt
        have hpw2 := pow_le h.nt (valid_nt HV.out).2.1
        have HO := Lib.hid (setBy_ok HV.out b h.nt)
        obtain ⟨own, ho⟩ : ∃ own, own = h.setBy b h.nt := ⟨_, rfl⟩
        go_wp2_with fail
        refine (openBy_any h HV.out b hb9 ta ra tc rc _ (HR.out.mono hbw4)).mono ?_
        rintro e w5 ⟨rfl, hb5⟩
        rw [← ho] at hown HO ⊢
        have hbw5 := hbw4.trans (hb5.mono hbw4.size)
        have KH5 := Lib.hid (KH4.out.below hb5)
        have KM5 := Lib.hid (KM4.out.below hb5)
        clear a0 a1 a2 a3 als c0 c1 c2 c3 cls hb5 ho
        go_wp2_with fail
        refine (starves1_any h HV.out m (valid_fair HM.out) own (by omega) ta ra tc rc _ _ w5 (HT.out.mono hbw5) KH5.out KM5.out).mono ?_
        rintro e w6 ⟨rfl, hb6⟩
        have hbw6 := hbw5.trans (hb6.mono hbw5.size)
        have KH6 := Lib.hid (KH5.out.below hb6)
        have KM6 := Lib.hid (KM5.out.below hb6)
        have hRR := starvedR_ok HV.out HM.out
        clear hb6
        by_cases hw : wantB (h.starved m) = true
        · rw [if_pos hw] at hRR
          rw [hRR, full_no hw own hown HO.out]
          clear hRR
          go_wp2_with (go_at_call 13; refine (HA.out _).mono ?_; rintro e w7 ⟨rfl, hb7⟩)
          go_ret
          exact ⟨rfl, hbw6.trans (hb7.mono hbw6.size)⟩
        · rw [if_neg hw] at hRR
          replace hw : wantB (h.starved m) = false := by simpa using hw
          obtain ⟨k, hk, k1, k2, k3, k4, k5⟩ := starved_is hw
          rw [hk] at hRR
          rw [hRR]
          have K4 := Lib.hid k4
          have K3 := Lib.hid k3
          have K5 := Lib.hid k5
          obtain ⟨N, hN⟩ : ∃ N, N = 2 ^ h.nt := ⟨_, rfl⟩
          have hw1 : wrap64 (2 ^ h.nt) = (N : Int) := by rw [hN]; exact wrap_lim _ (valid_nt HV.out).2.1
          have hw2 : IntKind.i64.wrap (2 ^ h.nt) = (N : Int) := by rw [IntWalk.i64_left]; exact hw1
          rw [← hN] at k2 hown hpw2
          have hn10 : h.nt ≤ 10 := (valid_nt HV.out).2.1
          have hkN : ¬ (N : Int) ≤ (k : Int) := by omega
          have hk1 : ¬ (k : Int) < 1 := by omega
          clear hRR hw hk k3 k4 k5 hN
          obtain ⟨a0, a1, a2, a3, als⟩ := KH6.out
          obtain ⟨c0, c1, c2, c3, cls⟩ := KM6.out
          go_wp2_with (go_at_call 26; refine (refOpen_any h HV.out k (by omega) ta ra tc rc _ (HR.out.mono hbw6)).mono ?_; rintro e w7 ⟨rfl, hb7⟩; rw [K3.out])
          have hbw7 := hbw6.trans (hb7.mono hbw6.size)
          have KH7 := Lib.hid (KH6.out.below hb7)
          have KM7 := Lib.hid (KM6.out.below hb7)
          clear a0 a1 a2 a3 als c0 c1 c2 c3 cls hb7
          refine (starves1_any h HV.out m (valid_fair HM.out) k (by omega) ta ra tc rc _ _ w7 (HT.out.mono hbw7) KH7.out KM7.out).mono ?_
          rintro e w8 ⟨rfl, hb8⟩
          rw [K4.out]
          have hbw8 := hbw7.trans (hb8.mono hbw7.size)
          clear hb8
          by_cases hle : (k : Int) ≤ (own : Int)
          · go_wp2_with (go_at_call 13; refine (HA.out _).mono ?_; rintro e w9 ⟨rfl, hb9⟩)
            go_ret
            exact ⟨rfl, hbw8.trans (hb9.mono hbw8.size)⟩
          · rw [K5.out own (by omega) HO.out]
            go_wp2_with (go_at_call 13; refine (HA.out _).mono ?_; rintro e w9 ⟨rfl, hb9⟩)
            go_ret
            exact ⟨rfl, hbw8.trans (hb9.mono hbw8.size)⟩
      · replace hm : m.valid = false := by simpa using hm
        rw [hm, show h.starvedR m = (0, false, 2) by simp [House.starvedR, HV.out, hm]]
        go_wp2_with (first | (go_at_call 25; refine (refHouse_any h ta ra tc rc _ g1 g2 (HT.out.mono hbw4) (HR.out.mono hbw4)).mono ?_; rintro e w5 ⟨rfl, hb5⟩; rw [HV.out]) | (go_at_call 13; refine (HA.out _).mono ?_; rintro e w6 ⟨rfl, hb6⟩))
        go_ret
        exact ⟨rfl, (hbw4.trans (hb5.mono hbw4.size)).trans (hb6.mono (hbw4.trans (hb5.mono hbw4.size)).size)⟩
    · replace hv : h.valid = false := by simpa using hv
      have HV := Lib.hid hv
      rw [show h.starvedR m = (0, false, 1) by simp [House.starvedR, hv]]
      go_wp2_with fail
      refine (refHouse_any h ta ra tc rc _ g1 g2 (HT.out.mono hbw2) (HR.out.mono hbw2)).mono ?_
      rintro e w3 ⟨rfl, hb3⟩
      rw [hv]
      have hbw3 := hbw2.trans (hb3.mono hbw2.size)
      have KH3 := Lib.hid (KH2.out.below hb3)
      clear a0 a1 a2 a3 als c0 c1 c2 c3 cls hb3 hv
      obtain ⟨a0, a1, a2, a3, als⟩ := KH3.out
      go_wp2_with (first | (go_at_call 25; refine (refHouse_any h ta ra tc rc _ g1 g2 (HT.out.mono hbw3) (HR.out.mono hbw3)).mono ?_; rintro e w5 ⟨rfl, hb5⟩; rw [HV.out]) | (go_at_call 13; refine (HA.out _).mono ?_; rintro e w6 ⟨rfl, hb6⟩))
      go_ret
      exact ⟨rfl, (hbw3.trans (hb5.mono hbw3.size)).trans (hb6.mono (hbw3.trans (hb5.mono hbw3.size)).size)⟩
end Go.Proofs.Ytckagcbjcpfjpaa
