/- The walk of SizePair, given what alive comes to. -/
import Derived.Test.YtckagcbjcpfjpaaP9
namespace Go.Proofs.Ytckagcbjcpfjpaa
open Go.RowKit
theorem HB.drewN {h : House} {ta ra : Option Addr} {tc rc n : Nat} {W : World} (k : HB h ta ra tc rc n W) (q : Nat) : HB h ta ra tc rc n (W.drewN q) := ⟨k.a0, k.a1, k.a2, k.a3, k.ls⟩
theorem LB.drewN {oa : Option Addr} {n cap b : Nat} {W : World} (k : LB oa n cap b W) (q : Nat) : LB oa n cap b (W.drewN q) := ⟨k.a0, k.ls⟩
set_option maxRecDepth 100000 in
set_option maxHeartbeats 4000000 in
theorem pair_of (halive : ∀ w, Calls Try.prog 13 #[] w (TrueEnd w)) (h : House) (x y : Nat) (hx : x < 256) (hy : y < 256) (ta ra oa : Option Addr) (tc rc n cap : Nat) (t : Nat → Meter) (w : World) (hT : TapsAt w ta h.nt h.t) (hR : RulesAt w ra h.nr h.r) (hM : MetersAt w oa n t) :
    Calls Try.prog 9 #[houseV h ta ra tc rc, .slice oa n cap, .int .u8 (x : Nat), .int .u8 (y : Nat)] w (TrueEnd w) := by
  have HA := Lib.hid halive
  have HT := Lib.hid hT
  have HR := Lib.hid hR
  have HM := Lib.hid hM
  clear halive hT hR hM
  go_enter Try.func9, Try.ntmps9
  go_wp2_with fail
  refine (great_any h 7 ta ra tc rc _).mono ?_
  rintro e w1 ⟨rfl, hb1⟩
  have KH := Lib.hid (((HB.new h ta ra tc rc w).below (below_alloc1 _ (.cells #[.slice oa n cap] 38))).below hb1)
  have KL : Hid (LB oa n cap (w.heap.size + 1) w1) := Lib.hid ⟨(hb1.cell (p := ⟨w.heap.size + 1, 0, none⟩) (by simp)).trans (by simp [go_sem]), by have := hb1.size; simp at this; omega⟩
  have hbw : Below w.heap.size w w1 := Below.trans (by repeat' (first | exact Below.refl _ _ | assumption | apply below_drewN | apply Below.drew | (refine Below.alloc ?_ ?_ _) | (refine Below.setCell ?_ ?_ _) | (simp; done) | (simp; omega) | omega)) (hb1.mono (by simp; omega))
  clear hb1
  by_cases hg : greatB h.nt h.nr 7 = true
  · rw [hg]
    go_wp2_with fail
    refine (HA.out _).mono ?_
    rintro e wz ⟨rfl, hbz⟩
    go_wp2
    go_ret
    exact ⟨rfl, hbw.trans (hbz.mono hbw.size)⟩
  · replace hg : greatB h.nt h.nr 7 = false := by simpa using hg
    have g1 : h.nt ≤ 1000000 := by have := great_no hg; omega
    have g2 : h.nr ≤ 1000000 := by have := great_no hg; omega
    rw [hg]
    clear hg
    obtain ⟨a0, a1, a2, a3, als⟩ := KH.out
    obtain ⟨b0, bls⟩ := KL.out
    by_cases hn : (18 : Int) < (n : Int)
    · skip
      go_wp2_with fail
      refine (HA.out _).mono ?_
      rintro e wz ⟨rfl, hbz⟩
      go_wp2
      go_ret
      exact ⟨rfl, hbw.trans (hbz.mono hbw.size)⟩
    · by_cases hn2 : (n : Int) < 2
      · skip
        go_wp2_with fail
        refine (HA.out _).mono ?_
        rintro e wz ⟨rfl, hbz⟩
        go_wp2
        go_ret
        exact ⟨rfl, hbw.trans (hbz.mono hbw.size)⟩
      · have g3 : n ≤ 1000000 := by omega
        have hn3 : 2 ≤ n := by omega
        go_wp2_with fail
        refine (refHouse_any h ta ra tc rc _ g1 g2 (HT.out.mono hbw) (HR.out.mono hbw)).mono ?_
        rintro e w2 ⟨rfl, hb2⟩
        have KH2 := Lib.hid (KH.out.below hb2)
        have KL2 := Lib.hid (KL.out.below hb2)
        have hbw2 := hbw.trans (hb2.mono hbw.size)
        clear a0 a1 a2 a3 als b0 bls hb2
        obtain ⟨a0, a1, a2, a3, als⟩ := KH2.out
        obtain ⟨b0, bls⟩ := KL2.out
        by_cases hv : h.valid = true
        · rw [hv]
          have HV := Lib.hid hv
          clear hv
          go_wp2_with fail
          refine (refSizes_any oa n cap t _ g3 (HM.out.mono hbw2)).mono ?_
          rintro e w3 ⟨rfl, hb3⟩
          have KH3 := Lib.hid (KH2.out.below hb3)
          have KL3 := Lib.hid (KL2.out.below hb3)
          have hbw3 := hbw2.trans (hb3.mono hbw2.size)
          clear a0 a1 a2 a3 als b0 bls hb3
          obtain ⟨a0, a1, a2, a3, als⟩ := KH3.out
          obtain ⟨b0, bls⟩ := KL3.out
          by_cases hl : listB n t = true
          · rw [hl]
            have HL := Lib.hid hl
            clear hl
            go_wp2_with fail
            refine (Pair_any h ta ra oa tc rc n cap t _ g1 g2 g3 (HT.out.mono hbw3) (HR.out.mono hbw3) (HM.out.mono hbw3)).mono ?_
            rintro e w4 ⟨rfl, hb4⟩
            have KH4 := Lib.hid (KH3.out.below hb4)
            have KL4 := Lib.hid (KL3.out.below hb4)
            have hbw4 := hbw3.trans (hb4.mono hbw3.size)
            clear a0 a1 a2 a3 als b0 bls hb4
            obtain ⟨i, hi⟩ : ∃ i, i = x % n := ⟨_, rfl⟩
            obtain ⟨k, hk⟩ : ∃ k, k = y % n := ⟨_, rfl⟩
            have hin : i < n := by rw [hi]; exact Nat.mod_lt _ (by omega)
            have hkn : k < n := by rw [hk]; exact Nat.mod_lt _ (by omega)
            have hi2 : (x : Int) % (n : Int) = (i : Int) := by rw [hi]; simp
            have hk2 : (y : Int) % (n : Int) = (k : Int) := by rw [hk]; simp
            clear hi hk
            obtain ⟨b0, bls⟩ := KL4.out
            rcases pair_cases HV.out HL.out with ⟨hch, hno⟩ | ⟨i0, k0, hch, h1, h2, h3, h4⟩
            · rw [hch]
              have hG := hno i k hin hkn
              clear hch hno
              go_wp2_with fail
              go_big_quiet (fail)
              have KH5 := Lib.hid (KH4.out.drewN nq)
              have KL5 := Lib.hid (KL4.out.drewN nq)
              have hbw5 := below_drewN hbw4 nq
              clear b0 bls
              go_wp2_with fail
              refine (good1_any h HV.out g1 g2 ta ra oa tc rc n cap _ _ t HL.out i k hin hkn _ (HT.out.mono hbw5) (HR.out.mono hbw5) (HM.out.mono hbw5) KH5.out KL5.out).mono ?_
              rintro e w6 ⟨rfl, hb6⟩
              rw [hG]
              have hbw6 := hbw5.trans (hb6.mono hbw5.size)
              go_wp2_with fail
              refine (HA.out _).mono ?_
              rintro e wz ⟨rfl, hbz⟩
              go_wp2
              go_ret
              exact ⟨rfl, hbw6.trans (hbz.mono hbw6.size)⟩
            · rw [hch]
              clear hch
              go_wp2_with fail
              go_big_quiet (fail)
              have KH5 := Lib.hid (KH4.out.drewN nq)
              have KL5 := Lib.hid (KL4.out.drewN nq)
              have hbw5 := below_drewN hbw4 nq
              clear b0 bls
              obtain ⟨w5, hw5⟩ : ∃ X, X = w4.drewN nq := ⟨_, rfl⟩
              rw [← hw5] at KH5 KL5 hbw5 ⊢
              clear hw5
              obtain ⟨b, off, rfl, hlt0, m0, m1, m2, m3⟩ := (HM.out.mono hbw5) i0 (by omega)
              obtain ⟨b', off', hbo', hlt1, n0, n1, n2, n3⟩ := (HM.out.mono hbw5) k0 h2
              cases hbo'
              obtain ⟨b', off', hbo', hlt2, u0, u1, u2, u3⟩ := (HM.out.mono hbw5) i hin
              cases hbo'
              obtain ⟨b', off', hbo', hlt3, v0, v1, v2, v3⟩ := (HM.out.mono hbw5) k hkn
              cases hbo'
              have r0 : ∀ W : Aft w5, W.val.cell? ⟨b, off + i0 * 4 + 3, none⟩ = some (.int .i64 (t i0).price) := fun W => (W.below.cell hlt0).trans m3
              have r1 : ∀ W : Aft w5, W.val.cell? ⟨b, off + k0 * 4 + 3, none⟩ = some (.int .i64 (t k0).price) := fun W => (W.below.cell hlt0).trans n3
              have r2 : ∀ W : Aft w5, W.val.cell? ⟨w.heap.size + 1, 0, none⟩ = some (.slice (some ⟨b, off, none⟩) n cap) := fun W => (KL5.out.below W.below).a0
              have r3 : ∀ W : Aft w5, W.val.cell? ⟨b, off + i * 4 + 3, none⟩ = some (.int .i64 (t i).price) := fun W => (W.below.cell hlt0).trans u3
              have r4 : ∀ W : Aft w5, W.val.cell? ⟨b, off + k * 4 + 3, none⟩ = some (.int .i64 (t k).price) := fun W => (W.below.cell hlt0).trans v3
              have hc : ∀ W : Aft w5, Calls Try.prog 33 #[.int .i64 (i0 : Nat), .int .i64 (k0 : Nat), .pointer (some ⟨w.heap.size, 0, none⟩), .pointer (some ⟨w.heap.size + 1, 0, none⟩)] W.val fun e w' => e = .returned (.bool (h.goodP t i0 k0)) ∧ Below W.val.heap.size W.val w' :=
                fun W => good1_any h HV.out g1 g2 ta ra _ tc rc n cap _ _ t HL.out i0 k0 (by omega) h2 _ (HT.out.mono (hbw5.trans (W.below.mono hbw5.size))) (HR.out.mono (hbw5.trans (W.below.mono hbw5.size))) (HM.out.mono (hbw5.trans (W.below.mono hbw5.size))) (KH5.out.below W.below) (KL5.out.below W.below)
              rw [h3] at hc
              have HC := Lib.hid hc
              have q1 := listB_price HL.out i0 (by omega)
              have q2 := listB_price HL.out k0 h2
              have q3 := listB_price HL.out i hin
              have q4 := listB_price HL.out k hkn
              have hpr : pr t i0 k0 = (t i0).price + (t k0).price := rfl
              have hpr2 : pr t i k = (t i).price + (t k).price := rfl
              have hord := h4 i k hin hkn
              rw [hpr, hpr2] at hord
              have HO := Lib.hid hord
              have e1 : decide ((i0 : Int) < 0) = false := decide_eq_false (by omega)
              have e2 : decide (k0 ≤ i0) = false := decide_eq_false (by omega)
              have e3 : decide (n ≤ k0) = false := decide_eq_false (by omega)
              have e4 : (i0 : Int) < (n : Int) := by omega
              have e5 : (k0 : Int) < (n : Int) := by omega
              have e6 : (i : Int) < (n : Int) := by omega
              have e7 : (k : Int) < (n : Int) := by omega
              rw [hpr]
              clear m0 m1 m2 m3 n0 n1 n2 n3 u0 u1 u2 u3 v0 v1 v2 v3 hc hord h3 h4 hpr hpr2
              go_wp2_with fail
              refine wp_region_aft (by kernel_rfl) (by kernel_rfl) ?_
              repeat (go_big_quiet_step ((go_at_call 33; exact aft_call (HC.out _))))
              refine wpQuiet_nil ?_
              rintro ⟨w6, hb6⟩
              have s2 := r2 ⟨w6, hb6⟩
              have s3 := r3 ⟨w6, hb6⟩
              have s4 := r4 ⟨w6, hb6⟩
              have KH6 := Lib.hid (KH5.out.below hb6)
              have KL6 := Lib.hid (KL5.out.below hb6)
              have hbw6 := hbw5.trans (hb6.mono hbw5.size)
              have hs6 := hb6.size
              dsimp only at s2 s3 s4 ⊢
              clear r0 r1 r2 r3 r4 hb6
              go_wp2_with fail
              refine (good1_any h HV.out g1 g2 ta ra _ tc rc n cap _ _ t HL.out i k hin hkn _ (HT.out.mono hbw6) (HR.out.mono hbw6) (HM.out.mono hbw6) KH6.out KL6.out).mono ?_
              rintro e w7 ⟨rfl, hb7⟩
              have hbw7 := hbw6.trans (hb7.mono hbw6.size)
              by_cases hG : h.goodP t i k = true
              · rw [hG]
                have ho := HO.out hG
                have t2 := (hb7.cell (p := ⟨w.heap.size + 1, 0, none⟩) KL6.out.ls).trans s2
                have t3 := (hb7.cell (p := ⟨b, off + i * 4 + 3, none⟩) (Nat.lt_of_lt_of_le hlt0 hs6)).trans s3
                have t4 := (hb7.cell (p := ⟨b, off + k * 4 + 3, none⟩) (Nat.lt_of_lt_of_le hlt0 hs6)).trans s4
                clear s2 s3 s4 hb7 hG
                go_wp2_with fail
                go_big_quiet (fail)
                have hbw8 := below_drewN hbw7 nq
                rcases ho with ho | ⟨ho, ho2 | ⟨ho2, ho3⟩⟩
                · have d1 : (t i0).price + (t k0).price ≤ (t i).price + (t k).price := by omega
                  go_wp2_with fail
                  refine (HA.out _).mono ?_
                  rintro e wz ⟨rfl, hbz⟩
                  go_wp2
                  go_ret
                  exact ⟨rfl, hbw8.trans (hbz.mono hbw8.size)⟩
                · have d1 : (t i0).price + (t k0).price ≤ (t i).price + (t k).price := by omega
                  have d2 : ¬ (t i0).price + (t k0).price < (t i).price + (t k).price := by omega
                  have d3 : (i0 : Int) < (i : Int) := by omega
                  clear ho
                  go_wp2_with fail
                  refine (HA.out _).mono ?_
                  rintro e wz ⟨rfl, hbz⟩
                  go_wp2
                  go_ret
                  exact ⟨rfl, hbw8.trans (hbz.mono hbw8.size)⟩
                · subst ho2
                  have d1 : (t i0).price + (t k0).price ≤ (t i0).price + (t k).price := by omega
                  have d2 : ¬ (t i0).price + (t k0).price < (t i0).price + (t k).price := by omega
                  have d3 : ¬ (i0 : Int) < (i0 : Int) := by omega
                  have d5 : (k0 : Int) ≤ (k : Int) := by omega
                  clear ho
                  go_wp2_with fail
                  refine (HA.out _).mono ?_
                  rintro e wz ⟨rfl, hbz⟩
                  go_wp2
                  go_ret
                  exact ⟨rfl, hbw8.trans (hbz.mono hbw8.size)⟩
              · replace hG : h.goodP t i k = false := by simpa using hG
                rw [hG]
                clear s2 s3 s4 hb7
                go_wp2_with fail
                refine (HA.out _).mono ?_
                rintro e wz ⟨rfl, hbz⟩
                go_wp2
                go_ret
                exact ⟨rfl, hbw7.trans (hbz.mono hbw7.size)⟩
          · replace hl : listB n t = false := by simpa using hl
            rw [hl]
            go_wp2_with fail
            refine (HA.out _).mono ?_
            rintro e wz ⟨rfl, hbz⟩
            go_wp2
            go_ret
            exact ⟨rfl, hbw3.trans (hbz.mono hbw3.size)⟩
        · replace hv : h.valid = false := by simpa using hv
          rw [hv]
          go_wp2_with fail
          refine (HA.out _).mono ?_
          rintro e wz ⟨rfl, hbz⟩
          go_wp2
          go_ret
          exact ⟨rfl, hbw2.trans (hbz.mono hbw2.size)⟩
end Go.Proofs.Ytckagcbjcpfjpaa
