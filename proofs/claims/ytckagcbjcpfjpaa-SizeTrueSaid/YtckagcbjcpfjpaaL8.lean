/- The walk of SizeSmallest, given what alive comes to. -/
import Derived.Test.YtckagcbjcpfjpaaS8
import Derived.Deep.DeepCutAuto
namespace Go.Proofs.Ytckagcbjcpfjpaa
open Go.RowKit
theorem choose_list {h : House} {n : Nat} {t : Nat → Meter} (hv : h.valid = true) (hl : listB n t = false) : h.chooseR n t = (0, 2) := by rw [House.chooseR, errB_list hv hl]; rfl
theorem choose_cases {h : House} {n : Nat} {t : Nat → Meter} (hv : h.valid = true) (hl : listB n t = true) :
    (∃ k, k < n ∧ h.chooseR n t = (k, 0) ∧ h.goodB (t k) = true ∧ ∀ i, i < k → h.goodB (t i) = false) ∨ (h.chooseR n t = (0, 10) ∧ ∀ i, i < n → h.fullB (t i) = false) ∨ (h.chooseR n t = (0, 11) ∧ ∀ i, i < n → h.goodB (t i) = false) := by
  unfold House.chooseR
  rw [if_pos (errB_ok hv hl)]
  cases hf : firstN n (fun i => h.goodB (t i)) with
  | some k =>
    have h1 := List.find?_some hf
    have h2 := List.mem_range.1 (List.mem_of_find?_eq_some hf)
    exact .inl ⟨k, h2, rfl, h1, find_first hf⟩
  | none =>
    have h0 : ∀ i, i < n → h.goodB (t i) = false := fun i hi => by simpa using List.find?_eq_none.1 hf i (List.mem_range.2 hi)
    refine .inr ?_
    by_cases ha : anyB n (fun i => h.fullB (t i)) = true
    · exact .inr ⟨by simp [House.chErr, ha], h0⟩
    · refine .inl ⟨by simp [House.chErr, ha], fun i hi => ?_⟩
      cases hfu : h.fullB (t i) with
      | false => rfl
      | true => exact absurd (anyB_iff.2 ⟨i, hi, hfu⟩) ha
theorem good_no {h : House} {m : Meter} (hg : h.goodB m = false) (hf : h.fullB m = true) : ¬ m.start ≤ h.drip := fun hs => by
  simp [House.goodB, hf, hs] at hg
theorem good_yes {h : House} {m : Meter} (hg : h.goodB m = true) : h.fullB m = true ∧ m.start ≤ h.drip := by
  simpa [House.goodB] using hg
theorem size_valid {n loss : Int} (h1 : 1 ≤ n) (h2 : n ≤ 1000000) (hl : withinB loss 0 10000 = true) : Meter.valid ⟨0, n, loss, 0⟩ = true := by
  have a1 : withinB n 1 1000000 = true := decide_eq_true ⟨h1, h2⟩
  have a2 : withinB 0 0 n = true := decide_eq_true ⟨by omega, by omega⟩
  have a4 : withinB 0 0 1000000 = true := decide_eq_true ⟨by omega, by omega⟩
  show (withinB n 1 1000000 && withinB 0 0 n && withinB loss 0 10000 && withinB 0 0 1000000) = true
  rw [a1, a2, hl, a4]
  rfl
set_option maxRecDepth 100000 in
set_option maxHeartbeats 4000000 in
theorem smallest_of (halive : ∀ w, Calls Try.prog 13 #[] w (TrueEnd w)) (h : House) (loss : Int) (bb : Nat) (hb9 : bb < 256) (ta ra oa : Option Addr) (tc rc n cap : Nat) (t : Nat → Meter) (w : World) (hT : TapsAt w ta h.nt h.t) (hR : RulesAt w ra h.nr h.r) (hM : MetersAt w oa n t) :
    Calls Try.prog 8 #[houseV h ta ra tc rc, .slice oa n cap, .int .i64 loss, .int .u8 (bb : Nat)] w (TrueEnd w) := by
  have HA := Lib.hid halive
  have HT := Lib.hid hT
  have HR := Lib.hid hR
  have HM := Lib.hid hM
  clear halive hT hR hM
  go_enter Try.func8, Try.ntmps8
  go_wp2_with fail
  refine (great_any h 7 ta ra tc rc _).mono ?_
  rintro e w1 ⟨rfl, hb1⟩
  have KH := Lib.hid ((HB.new h ta ra tc rc w).below hb1)
  have hbw : Below w.heap.size w w1 := Below.trans (by repeat' (first | exact Below.refl _ _ | assumption | apply below_drewN | apply Below.drew | (refine Below.alloc ?_ ?_ _) | (refine Below.setCell ?_ ?_ _) | (simp; done) | (simp; omega) | omega)) (hb1.mono (by simp))
  clear hb1
  by_cases hg : greatB h.nt h.nr 7 = true
  · rw [hg]
    go_wp2_with fail
    refine (HA.out _).mono ?_
    rintro e w2 ⟨rfl, hb2⟩
    go_wp2
    go_ret
    exact ⟨rfl, hbw.trans (hb2.mono hbw.size)⟩
  · replace hg : greatB h.nt h.nr 7 = false := by simpa using hg
    have g1 : h.nt ≤ 1000000 := by have := great_no hg; omega
    have g2 : h.nr ≤ 1000000 := by have := great_no hg; omega
    rw [hg]
    clear hg
    by_cases hn : (18 : Int) < (n : Int)
    · go_wp2_with fail
      refine (HA.out _).mono ?_
      rintro e w2 ⟨rfl, hb2⟩
      go_wp2
      go_ret
      exact ⟨rfl, hbw.trans (hb2.mono hbw.size)⟩
    · have g3 : n ≤ 1000000 := by omega
      have hn2 : n ≤ 18 := by omega
      obtain ⟨a0, a1, a2, a3, als⟩ := KH.out
      go_wp2_with fail
      refine (refHouse_any h ta ra tc rc _ g1 g2 (HT.out.mono hbw) (HR.out.mono hbw)).mono ?_
      rintro e w2 ⟨rfl, hb2⟩
      have KH2 := Lib.hid (KH.out.below hb2)
      have hbw2 := hbw.trans (hb2.mono hbw.size)
      clear a0 a1 a2 a3 als hb2
      by_cases hv : h.valid = true
      · rw [hv]
        have HV := Lib.hid hv
        clear hv
        obtain ⟨a0, a1, a2, a3, als⟩ := KH2.out
        go_wp2_with fail
        refine (Choose_any h ta ra oa tc rc n cap t _ g1 g2 g3 (HT.out.mono hbw2) (HR.out.mono hbw2) (HM.out.mono hbw2)).mono ?_
        rintro e w3 ⟨rfl, hb3⟩
        have KH3 := Lib.hid (KH2.out.below hb3)
        have hbw3 := hbw2.trans (hb3.mono hbw2.size)
        clear a0 a1 a2 a3 als hb3
        go_wp2_with fail
        refine (refSizes_any oa n cap t _ g3 (HM.out.mono hbw3)).mono ?_
        rintro e w4 ⟨rfl, hb4⟩
        have KH4 := Lib.hid (KH3.out.below hb4)
        have hbw4 := hbw3.trans (hb4.mono hbw3.size)
        clear hb4
        by_cases hl : listB n t = true
        · rw [hl]
          have HL := Lib.hid hl
          clear hl
          go_upto_if 42 with fail
          go_cut [10, 11, 12, 13] (fun s10 s11 s12 s13 wx => HB h ta ra tc rc w.heap.size wx ∧ Below w.heap.size w wx)
          case first =>
            by_cases hn0 : n = 0
            · have hn1 : ¬ (0 : Int) < (n : Int) := by omega
              clear hn0
              go_wp2_with fail
              go_meet
              exact ⟨KH4.out, hbw4⟩
            · have hn1 : (0 : Int) < (n : Int) := by omega
              obtain ⟨b, off, rfl, hlt0, m0, m1, m2, m3⟩ := (HM.out.mono hbw4) (bb % n) (Nat.mod_lt _ (by omega))
              obtain ⟨i, hi⟩ : ∃ i, i = bb % n := ⟨_, rfl⟩
              have hin : i < n := by rw [hi]; exact Nat.mod_lt _ (by omega)
              rw [← hi] at m0 m1 m2 m3
              have hi2 : (bb : Int) % (n : Int) = (i : Int) := by rw [hi]; simp
              have hin2 : (i : Int) < (n : Int) := by omega
              clear hi
              obtain ⟨a0, a1, a2, a3, als⟩ := KH4.out
              have HNI := Lib.hid (show h.noneB (t i) = h.fullB (t i) by simp [House.noneB, (listB_fair HL.out i hin).1])
              rcases choose_cases HV.out HL.out with ⟨k, hk, hch, hgk, hgi⟩ | ⟨hch, hfi⟩ | ⟨hch, hgi⟩
              · rw [hch]
                have hkn : ¬ (n : Int) ≤ (k : Int) := by omega
                have hkn1 : decide (n ≤ k) = false := by simp; omega
                rcases Nat.lt_trichotomy i k with hik | hik | hik
                · have h1 : (i : Int) < (k : Int) := by omega
                  have h3 : decide (i < k) = true := by simp; omega
                  have h2 : ((i : Int) == (k : Int)) = false := by simp; omega
                  have h4 : (i == k) = false := by simp; omega
                  have h5 : decide (i = k) = false := by simp; omega
                  have hg := hgi i hik
                  by_cases hfu : h.fullB (t i) = true
                  · have hst := good_no hg hfu
                    have hs6 : decide ((t i).start ≤ h.drip) = false := decide_eq_false hst
                    rw [hfu] at HNI
                    clear hch hgk hgi hg hfu
                    go_wp2_with fail
                    refine (none1_any h HV.out g1 g2 (t i) ta ra tc rc _ _ (HT.out.mono hbw4) (HR.out.mono hbw4) KH4.out).mono ?_
                    rintro e w5 ⟨rfl, hb5⟩
                    rw [HNI.out]
                    have KX := KH4.out.below hb5
                    have hbx := hbw4.trans (hb5.mono hbw4.size)
                    have s0 := (hb5.cell (p := ⟨b, off + i * 4, none⟩) hlt0).trans m0
                    have s1 := KX.a1
                    clear a0 a1 a2 a3 als m0 m1 m2 m3 hb5
                    clear HA HT HR HM KH KH2 KH3 KH4 hbw hbw2 hbw3 hbw4 HL HNI
                    go_wp2_with fail
                    simp only [List.append]
                    go_big_quiet (fail)
                    have KZ : Hid (HB h ta ra tc rc w.heap.size (w5.drewN nq)) := Lib.hid ⟨KX.a0, KX.a1, KX.a2, KX.a3, KX.ls⟩
                    have hbz := below_drewN hbx nq
                    obtain ⟨wz, hwz⟩ : ∃ X, X = w5.drewN nq := ⟨_, rfl⟩
                    rw [← hwz] at KZ hbz ⊢
                    clear hwz hbx KX s0 s1
                    go_wp2_with fail
                    go_meet
                    exact ⟨KZ.out, hbz⟩
                  · replace hfu : h.fullB (t i) = false := by simpa using hfu
                    rw [hfu] at HNI
                    clear hch hgk hgi hg hfu
                    go_wp2_with fail
                    refine (none1_any h HV.out g1 g2 (t i) ta ra tc rc _ _ (HT.out.mono hbw4) (HR.out.mono hbw4) KH4.out).mono ?_
                    rintro e w5 ⟨rfl, hb5⟩
                    rw [HNI.out]
                    have KX := KH4.out.below hb5
                    have hbx := hbw4.trans (hb5.mono hbw4.size)
                    have s0 := (hb5.cell (p := ⟨b, off + i * 4, none⟩) hlt0).trans m0
                    have s1 := KX.a1
                    clear a0 a1 a2 a3 als m0 m1 m2 m3 hb5
                    clear HA HT HR HM KH KH2 KH3 KH4 hbw hbw2 hbw3 hbw4 HL HNI
                    go_wp2_with fail
                    simp only [List.append]
                    go_big_quiet (fail)
                    have KZ : Hid (HB h ta ra tc rc w.heap.size (w5.drewN nq)) := Lib.hid ⟨KX.a0, KX.a1, KX.a2, KX.a3, KX.ls⟩
                    have hbz := below_drewN hbx nq
                    obtain ⟨wz, hwz⟩ : ∃ X, X = w5.drewN nq := ⟨_, rfl⟩
                    rw [← hwz] at KZ hbz ⊢
                    clear hwz hbx KX s0 s1
                    go_wp2_with fail
                    go_meet
                    exact ⟨KZ.out, hbz⟩
                · subst hik
                  obtain ⟨hfu, hst⟩ := good_yes hgk
                  have h1 : ¬ (i : Int) < (i : Int) := by omega
                  have hs6 : decide ((t i).start ≤ h.drip) = true := decide_eq_true hst
                  rw [hfu] at HNI
                  clear hch hgk hgi hfu
                  go_wp2_with fail
                  refine (none1_any h HV.out g1 g2 (t i) ta ra tc rc _ _ (HT.out.mono hbw4) (HR.out.mono hbw4) KH4.out).mono ?_
                  rintro e w5 ⟨rfl, hb5⟩
                  rw [HNI.out]
                  have KX := KH4.out.below hb5
                  have hbx := hbw4.trans (hb5.mono hbw4.size)
                  have s0 := (hb5.cell (p := ⟨b, off + i * 4, none⟩) hlt0).trans m0
                  have s1 := KX.a1
                  clear a0 a1 a2 a3 als m0 m1 m2 m3 hb5
                  clear HA HT HR HM KH KH2 KH3 KH4 hbw hbw2 hbw3 hbw4 HL HNI
                  go_wp2_with fail
                  simp only [List.append]
                  go_big_quiet (fail)
                  have KZ : Hid (HB h ta ra tc rc w.heap.size (w5.drewN nq)) := Lib.hid ⟨KX.a0, KX.a1, KX.a2, KX.a3, KX.ls⟩
                  have hbz := below_drewN hbx nq
                  obtain ⟨wz, hwz⟩ : ∃ X, X = w5.drewN nq := ⟨_, rfl⟩
                  rw [← hwz] at KZ hbz ⊢
                  clear hwz hbx KX s0 s1
                  go_wp2_with fail
                  go_meet
                  exact ⟨KZ.out, hbz⟩
                · have h1 : ¬ (i : Int) < (k : Int) := by omega
                  have h3 : decide (i < k) = false := by simp; omega
                  have h2 : ((i : Int) == (k : Int)) = false := by simp; omega
                  have h4 : (i == k) = false := by simp; omega
                  have h5 : decide (i = k) = false := by simp; omega
                  clear hch hgk hgi
                  go_wp2_with fail
                  refine (none1_any h HV.out g1 g2 (t i) ta ra tc rc _ _ (HT.out.mono hbw4) (HR.out.mono hbw4) KH4.out).mono ?_
                  rintro e w5 ⟨rfl, hb5⟩
                  rw [HNI.out]
                  have KX := KH4.out.below hb5
                  have hbx := hbw4.trans (hb5.mono hbw4.size)
                  have s0 := (hb5.cell (p := ⟨b, off + i * 4, none⟩) hlt0).trans m0
                  have s1 := KX.a1
                  clear a0 a1 a2 a3 als m0 m1 m2 m3 hb5
                  clear HA HT HR HM KH KH2 KH3 KH4 hbw hbw2 hbw3 hbw4 HL HNI
                  go_wp2_with fail
                  simp only [List.append]
                  go_big_quiet (fail)
                  have KZ : Hid (HB h ta ra tc rc w.heap.size (w5.drewN nq)) := Lib.hid ⟨KX.a0, KX.a1, KX.a2, KX.a3, KX.ls⟩
                  have hbz := below_drewN hbx nq
                  obtain ⟨wz, hwz⟩ : ∃ X, X = w5.drewN nq := ⟨_, rfl⟩
                  rw [← hwz] at KZ hbz ⊢
                  clear hwz hbx KX s0 s1
                  go_wp2_with fail
                  go_meet
                  exact ⟨KZ.out, hbz⟩
              · rw [hch]
                have hfu := hfi i hin
                rw [hfu] at HNI
                clear hch hfi hfu
                go_wp2_with fail
                refine (none1_any h HV.out g1 g2 (t i) ta ra tc rc _ _ (HT.out.mono hbw4) (HR.out.mono hbw4) KH4.out).mono ?_
                rintro e w5 ⟨rfl, hb5⟩
                rw [HNI.out]
                have KX := KH4.out.below hb5
                have hbx := hbw4.trans (hb5.mono hbw4.size)
                have s0 := (hb5.cell (p := ⟨b, off + i * 4, none⟩) hlt0).trans m0
                have s1 := KX.a1
                clear a0 a1 a2 a3 als m0 m1 m2 m3 hb5
                clear HA HT HR HM KH KH2 KH3 KH4 hbw hbw2 hbw3 hbw4 HL HNI
                go_wp2_with fail
                simp only [List.append]
                go_big_quiet (fail)
                have KZ : Hid (HB h ta ra tc rc w.heap.size (w5.drewN nq)) := Lib.hid ⟨KX.a0, KX.a1, KX.a2, KX.a3, KX.ls⟩
                have hbz := below_drewN hbx nq
                obtain ⟨wz, hwz⟩ : ∃ X, X = w5.drewN nq := ⟨_, rfl⟩
                rw [← hwz] at KZ hbz ⊢
                clear hwz hbx KX s0 s1
                go_wp2_with fail
                go_meet
                exact ⟨KZ.out, hbz⟩
              · rw [hch]
                have hg := hgi i hin
                by_cases hfu : h.fullB (t i) = true
                · have hst := good_no hg hfu
                  have hs6 : decide ((t i).start ≤ h.drip) = false := decide_eq_false hst
                  rw [hfu] at HNI
                  clear hch hgi hg hfu
                  go_wp2_with fail
                  refine (none1_any h HV.out g1 g2 (t i) ta ra tc rc _ _ (HT.out.mono hbw4) (HR.out.mono hbw4) KH4.out).mono ?_
                  rintro e w5 ⟨rfl, hb5⟩
                  rw [HNI.out]
                  have KX := KH4.out.below hb5
                  have hbx := hbw4.trans (hb5.mono hbw4.size)
                  have s0 := (hb5.cell (p := ⟨b, off + i * 4, none⟩) hlt0).trans m0
                  have s1 := KX.a1
                  clear a0 a1 a2 a3 als m0 m1 m2 m3 hb5
                  clear HA HT HR HM KH KH2 KH3 KH4 hbw hbw2 hbw3 hbw4 HL HNI
                  go_wp2_with fail
                  simp only [List.append]
                  go_big_quiet (fail)
                  have KZ : Hid (HB h ta ra tc rc w.heap.size (w5.drewN nq)) := Lib.hid ⟨KX.a0, KX.a1, KX.a2, KX.a3, KX.ls⟩
                  have hbz := below_drewN hbx nq
                  obtain ⟨wz, hwz⟩ : ∃ X, X = w5.drewN nq := ⟨_, rfl⟩
                  rw [← hwz] at KZ hbz ⊢
                  clear hwz hbx KX s0 s1
                  go_wp2_with fail
                  go_meet
                  exact ⟨KZ.out, hbz⟩
                · replace hfu : h.fullB (t i) = false := by simpa using hfu
                  rw [hfu] at HNI
                  clear hch hgi hg hfu
                  go_wp2_with fail
                  refine (none1_any h HV.out g1 g2 (t i) ta ra tc rc _ _ (HT.out.mono hbw4) (HR.out.mono hbw4) KH4.out).mono ?_
                  rintro e w5 ⟨rfl, hb5⟩
                  rw [HNI.out]
                  have KX := KH4.out.below hb5
                  have hbx := hbw4.trans (hb5.mono hbw4.size)
                  have s0 := (hb5.cell (p := ⟨b, off + i * 4, none⟩) hlt0).trans m0
                  have s1 := KX.a1
                  clear a0 a1 a2 a3 als m0 m1 m2 m3 hb5
                  clear HA HT HR HM KH KH2 KH3 KH4 hbw hbw2 hbw3 hbw4 HL HNI
                  go_wp2_with fail
                  simp only [List.append]
                  go_big_quiet (fail)
                  have KZ : Hid (HB h ta ra tc rc w.heap.size (w5.drewN nq)) := Lib.hid ⟨KX.a0, KX.a1, KX.a2, KX.a3, KX.ls⟩
                  have hbz := below_drewN hbx nq
                  obtain ⟨wz, hwz⟩ : ∃ X, X = w5.drewN nq := ⟨_, rfl⟩
                  rw [← hwz] at KZ hbz ⊢
                  clear hwz hbx KX s0 s1
                  go_wp2_with fail
                  go_meet
                  exact ⟨KZ.out, hbz⟩
          case rest =>
            obtain ⟨KZ0, hbz⟩ := hcut
            have KZ := Lib.hid KZ0
            clear KZ0
            obtain ⟨a0, a1, a2, a3, als⟩ := KZ.out
            go_wp2_with fail
            refine (Least_any h loss ta ra tc rc _ g1 g2 (HT.out.mono hbz) (HR.out.mono hbz)).mono ?_
            rintro e w6 ⟨r, c, rfl, hb6, hL1⟩
            have KY := Lib.hid (KZ.out.below hb6)
            have hby := hbz.trans (hb6.mono hbz.size)
            clear a0 a1 a2 a3 als hb6
            rw [if_pos HV.out] at hL1
            by_cases hl : withinB loss 0 10000 = true
            · rw [if_pos hl] at hL1
              rcases hL1 with ⟨rfl, rfl, hF⟩ | ⟨rfl, hr1, hr2, hF, hG⟩
              · have HN := Lib.hid (show h.noneB ⟨0, 1000000, loss, 0⟩ = false by
                  have e : sizeOf loss 999999 = ⟨0, 1000000, loss, 0⟩ := rfl
                  rw [e] at hF
                  simp [House.noneB, hF])
                clear hF hl
                go_wp2_with (first | (go_at_call 32; refine (none1_any h HV.out g1 g2 ⟨0, 1000000, loss, 0⟩ ta ra tc rc _ _ (HT.out.mono hby) (HR.out.mono hby) KY.out).mono ?_; rintro e w7 ⟨rfl, hb7⟩; rw [HN.out]) | (go_at_call 13; refine (HA.out _).mono ?_; rintro e w8 ⟨rfl, hb8⟩))
                go_ret
                exact ⟨rfl, (hby.trans (hb7.mono hby.size)).trans (hb8.mono (hby.trans (hb7.mono hby.size)).size)⟩
              · have HN := Lib.hid (show h.noneB ⟨0, (r : Int), loss, 0⟩ = true by
                  have e : sizeOf loss (r - 1) = ⟨0, (r : Int), loss, 0⟩ := by simp only [sizeOf, Meter.mk.injEq, true_and, and_true]; omega
                  rw [e] at hF
                  simp [House.noneB, hF, size_valid (n := (r : Int)) (by omega) (by omega) hl])
                clear hF
                by_cases hr9 : r = 1
                · subst hr9
                  clear hG hl
                  go_wp2_with (first | (go_at_call 32; refine (none1_any h HV.out g1 g2 ⟨0, 1, loss, 0⟩ ta ra tc rc _ _ (HT.out.mono hby) (HR.out.mono hby) KY.out).mono ?_; rintro e w7 ⟨rfl, hb7⟩; rw [show h.noneB ⟨0, 1, loss, 0⟩ = true from HN.out]) | (go_at_call 13; refine (HA.out _).mono ?_; rintro e w8 ⟨rfl, hb8⟩))
                  go_ret
                  exact ⟨rfl, (hby.trans (hb7.mono hby.size)).trans (hb8.mono (hby.trans (hb7.mono hby.size)).size)⟩
                · obtain ⟨q, hq⟩ : ∃ q : Nat, r = q + 1 := ⟨r - 1, by omega⟩
                  have HM2 := Lib.hid (show h.noneB ⟨0, (q : Int), loss, 0⟩ = false by
                    have hG2 := hG (by omega)
                    have e : sizeOf loss (r - 2) = ⟨0, (q : Int), loss, 0⟩ := by simp only [sizeOf, Meter.mk.injEq, true_and, and_true]; omega
                    rw [e] at hG2
                    simp [House.noneB, hG2])
                  have e1 : IntKind.i64.wrap ((r : Int) - 1) = (q : Int) := by rw [show (r : Int) - 1 = (q : Int) by omega]; exact IntWalk.i64_in _ (by omega)
                  have hr8 : ((r : Int) == 1) = false := by simp; omega
                  clear hG hq hl
                  go_wp2_with fail
                  refine (none1_any h HV.out g1 g2 ⟨0, (r : Int), loss, 0⟩ ta ra tc rc _ _ (HT.out.mono hby) (HR.out.mono hby) KY.out).mono ?_
                  rintro e w7 ⟨rfl, hb7⟩
                  rw [HN.out]
                  have hbx := hby.trans (hb7.mono hby.size)
                  have KX := Lib.hid (KY.out.below hb7)
                  clear hb7
                  go_wp2_with fail
                  refine (none1_any h HV.out g1 g2 ⟨0, (q : Int), loss, 0⟩ ta ra tc rc _ _ (HT.out.mono hbx) (HR.out.mono hbx) KX.out).mono ?_
                  rintro e w8 ⟨rfl, hb8⟩
                  rw [HM2.out]
                  go_wp2_with fail
                  refine (HA.out _).mono ?_
                  rintro e w9 ⟨rfl, hb9⟩
                  go_wp2
                  go_ret
                  exact ⟨rfl, (hbx.trans (hb8.mono hbx.size)).trans (hb9.mono (hbx.trans (hb8.mono hbx.size)).size)⟩
            · rw [if_neg hl] at hL1
              obtain ⟨rfl, rfl⟩ := hL1
              have hl2 : loss < 0 ∨ 10000 < loss := by simp only [withinB, decide_eq_true_eq] at hl; omega
              clear hl
              by_cases hl3 : loss < 0
              · go_wp2_with (go_at_call 13; refine (HA.out _).mono ?_; rintro e w8 ⟨rfl, hb8⟩)
                go_ret
                exact ⟨rfl, hby.trans (hb8.mono hby.size)⟩
              · have hl4 : decide ((10000 : Int) < loss) = true := by simp; omega
                go_wp2_with (go_at_call 13; refine (HA.out _).mono ?_; rintro e w8 ⟨rfl, hb8⟩)
                go_ret
                exact ⟨rfl, hby.trans (hb8.mono hby.size)⟩
        · replace hl : listB n t = false := by simpa using hl
          rw [hl, choose_list HV.out hl]
          have KZ := KH4
          have hbz := hbw4
          clear hl
          obtain ⟨a0, a1, a2, a3, als⟩ := KZ.out
          go_wp2_with fail
          refine (Least_any h loss ta ra tc rc _ g1 g2 (HT.out.mono hbz) (HR.out.mono hbz)).mono ?_
          rintro e w6 ⟨r, c, rfl, hb6, hL1⟩
          have KY := Lib.hid (KZ.out.below hb6)
          have hby := hbz.trans (hb6.mono hbz.size)
          clear a0 a1 a2 a3 als hb6
          rw [if_pos HV.out] at hL1
          by_cases hl : withinB loss 0 10000 = true
          · rw [if_pos hl] at hL1
            rcases hL1 with ⟨rfl, rfl, hF⟩ | ⟨rfl, hr1, hr2, hF, hG⟩
            · have HN := Lib.hid (show h.noneB ⟨0, 1000000, loss, 0⟩ = false by
                have e : sizeOf loss 999999 = ⟨0, 1000000, loss, 0⟩ := rfl
                rw [e] at hF
                simp [House.noneB, hF])
              clear hF hl
              go_wp2_with (first | (go_at_call 32; refine (none1_any h HV.out g1 g2 ⟨0, 1000000, loss, 0⟩ ta ra tc rc _ _ (HT.out.mono hby) (HR.out.mono hby) KY.out).mono ?_; rintro e w7 ⟨rfl, hb7⟩; rw [HN.out]) | (go_at_call 13; refine (HA.out _).mono ?_; rintro e w8 ⟨rfl, hb8⟩))
              go_ret
              exact ⟨rfl, (hby.trans (hb7.mono hby.size)).trans (hb8.mono (hby.trans (hb7.mono hby.size)).size)⟩
            · have HN := Lib.hid (show h.noneB ⟨0, (r : Int), loss, 0⟩ = true by
                have e : sizeOf loss (r - 1) = ⟨0, (r : Int), loss, 0⟩ := by simp only [sizeOf, Meter.mk.injEq, true_and, and_true]; omega
                rw [e] at hF
                simp [House.noneB, hF, size_valid (n := (r : Int)) (by omega) (by omega) hl])
              clear hF
              by_cases hr9 : r = 1
              · subst hr9
                clear hG hl
                go_wp2_with (first | (go_at_call 32; refine (none1_any h HV.out g1 g2 ⟨0, 1, loss, 0⟩ ta ra tc rc _ _ (HT.out.mono hby) (HR.out.mono hby) KY.out).mono ?_; rintro e w7 ⟨rfl, hb7⟩; rw [show h.noneB ⟨0, 1, loss, 0⟩ = true from HN.out]) | (go_at_call 13; refine (HA.out _).mono ?_; rintro e w8 ⟨rfl, hb8⟩))
                go_ret
                exact ⟨rfl, (hby.trans (hb7.mono hby.size)).trans (hb8.mono (hby.trans (hb7.mono hby.size)).size)⟩
              · obtain ⟨q, hq⟩ : ∃ q : Nat, r = q + 1 := ⟨r - 1, by omega⟩
                have HM2 := Lib.hid (show h.noneB ⟨0, (q : Int), loss, 0⟩ = false by
                  have hG2 := hG (by omega)
                  have e : sizeOf loss (r - 2) = ⟨0, (q : Int), loss, 0⟩ := by simp only [sizeOf, Meter.mk.injEq, true_and, and_true]; omega
                  rw [e] at hG2
                  simp [House.noneB, hG2])
                have e1 : IntKind.i64.wrap ((r : Int) - 1) = (q : Int) := by rw [show (r : Int) - 1 = (q : Int) by omega]; exact IntWalk.i64_in _ (by omega)
                have hr8 : ((r : Int) == 1) = false := by simp; omega
                clear hG hq hl
                go_wp2_with fail
                refine (none1_any h HV.out g1 g2 ⟨0, (r : Int), loss, 0⟩ ta ra tc rc _ _ (HT.out.mono hby) (HR.out.mono hby) KY.out).mono ?_
                rintro e w7 ⟨rfl, hb7⟩
                rw [HN.out]
                have hbx := hby.trans (hb7.mono hby.size)
                have KX := Lib.hid (KY.out.below hb7)
                clear hb7
                go_wp2_with fail
                refine (none1_any h HV.out g1 g2 ⟨0, (q : Int), loss, 0⟩ ta ra tc rc _ _ (HT.out.mono hbx) (HR.out.mono hbx) KX.out).mono ?_
                rintro e w8 ⟨rfl, hb8⟩
                rw [HM2.out]
                go_wp2_with fail
                refine (HA.out _).mono ?_
                rintro e w9 ⟨rfl, hb9⟩
                go_wp2
                go_ret
                exact ⟨rfl, (hbx.trans (hb8.mono hbx.size)).trans (hb9.mono (hbx.trans (hb8.mono hbx.size)).size)⟩
          · rw [if_neg hl] at hL1
            obtain ⟨rfl, rfl⟩ := hL1
            have hl2 : loss < 0 ∨ 10000 < loss := by simp only [withinB, decide_eq_true_eq] at hl; omega
            clear hl
            by_cases hl3 : loss < 0
            · go_wp2_with (go_at_call 13; refine (HA.out _).mono ?_; rintro e w8 ⟨rfl, hb8⟩)
              go_ret
              exact ⟨rfl, hby.trans (hb8.mono hby.size)⟩
            · have hl4 : decide ((10000 : Int) < loss) = true := by simp; omega
              go_wp2_with (go_at_call 13; refine (HA.out _).mono ?_; rintro e w8 ⟨rfl, hb8⟩)
              go_ret
              exact ⟨rfl, hby.trans (hb8.mono hby.size)⟩
      · replace hv : h.valid = false := by simpa using hv
        rw [hv]
        go_wp2_with fail
        refine (HA.out _).mono ?_
        rintro e w3 ⟨rfl, hb3⟩
        go_wp2
        go_ret
        exact ⟨rfl, hbw2.trans (hb3.mono hbw2.size)⟩
end Go.Proofs.Ytckagcbjcpfjpaa
