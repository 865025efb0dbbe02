/- StepNext returns true. -/
import Derived.Test.YtpognhnmkjpipaaDoorL4
namespace Go.Proofs.YtpognhnmkjpipaaDoor
open Go.RowKit
theorem next_cases (t : Tst) (m : Nat) (v : Nat → Int) : (t.nextErr m v = 1 ∧ t.err = 1) ∨ (t.nextErr m v = 3 ∧ t.err = 0) ∨ (t.nextErr m v = 3 ∧ t.err = 6) ∨ (t.nextErr m v = 2 ∧ t.err = 0) ∨ (t.nextErr m v = 2 ∧ t.err = 6) ∨ (t.nextErr m v = 6 ∧ t.err = 6) ∨ (t.nextErr m v = 4 ∧ t.err = 0) ∨
    (t.nextErr m v = 0 ∧ t.err = 0 ∧ t.valid = true ∧ 0 < m ∧ ∀ i, i < m → 0 ≤ v i ∧ (v i).toNat < 1024) := by
  unfold Tst.nextErr Tst.err
  cases hv : t.valid
  · simp
  · have hk := Tst.ok hv
    have h10 := pow_ten hk.n2
    by_cases hm : m ≤ 16
    · cases hb : anyB m (fun i => badV t.n (v i))
      · cases hf : t.fitB
        · simp [hm]
        · by_cases hs : sizeN (verd t).can < 2
          · simp [hm, hs]
          · by_cases h0 : m = 0
            · simp [h0]
            · have hvs : ∀ i, i < m → 0 ≤ v i ∧ (v i).toNat < 1024 := fun i hi => by
                have h9 : badV t.n (v i) = false := by
                  cases h9 : badV t.n (v i)
                  · rfl
                  · rw [anyB_hit hi h9] at hb; cases hb
                have := badV_no h9
                exact ⟨this.1, by omega⟩
              have hm0 : 0 < m := by omega
              simp [hm, hs, h0]
              exact ⟨hm0, fun i hi => ⟨(hvs i hi).1, by have := hvs i hi; omega⟩⟩
      · cases hf : t.fitB <;> simp [hm]
    · cases hf : t.fitB <;> simp [hm]
/-- the valve that is shut next is the first best one -/
theorem best_spec (c : Nat) (f : Nat → Nat) : ∀ k, (bestV c f (k + 1)).1 < k + 1 ∧ partsN c (f (bestV c f (k + 1)).1) = (bestV c f (k + 1)).2 ∧
    ∀ i, i < k + 1 → (bestV c f (k + 1)).2 ≤ partsN c (f i) ∧ (partsN c (f i) = (bestV c f (k + 1)).2 → (bestV c f (k + 1)).1 ≤ i)
  | 0 => by
    have h1 := parts_le (c := c) (s := f 0)
    have h2 := sizeN_le c
    have e2 : bestV c f (0 + 1) = if partsN c (f 0) < 11 then (0, partsN c (f 0)) else (0, 11) := rfl
    rw [if_pos (by omega)] at e2
    rw [e2]
    refine ⟨by dsimp only; omega, rfl, fun i hi => ?_⟩
    obtain rfl : i = 0 := by omega
    exact ⟨Nat.le_refl _, fun _ => Nat.le_refl _⟩
  | k + 1 => by
    obtain ⟨h1, h2, h3⟩ := best_spec c f k
    have e2 : bestV c f (k + 1 + 1) = if partsN c (f (k + 1)) < (bestV c f (k + 1)).2 then (k + 1, partsN c (f (k + 1))) else bestV c f (k + 1) := rfl
    by_cases h : partsN c (f (k + 1)) < (bestV c f (k + 1)).2
    · rw [if_pos h] at e2
      rw [e2]
      refine ⟨by dsimp only; omega, rfl, fun i hi => ?_⟩
      by_cases hik : i = k + 1
      · subst hik; exact ⟨Nat.le_refl _, fun _ => Nat.le_refl _⟩
      · have := h3 i (by omega)
        dsimp only
        omega
    · rw [if_neg h] at e2
      rw [e2]
      refine ⟨by omega, h2, fun i hi => ?_⟩
      by_cases hik : i = k + 1
      · subst hik; exact ⟨by omega, fun _ => by omega⟩
      · exact h3 i (by omega)
set_option maxHeartbeats 1000000 in
theorem parts_any (g c s : Nat) (w : World) (hc : c < 1024) (hs : s < 1024) (hz : Box g #[.int .i64 (c : Nat)] 3 w) :
    Calls Tryd.prog 26 #[.int .i64 (s : Nat), .pointer (some ⟨g, 0, none⟩)] w fun e w' => e = .returned (.int .i64 (partsN c s : Nat)) ∧ Below w.heap.size w w' := by
  have V1 := i64_and_nat c s (by omega) (by omega)
  have V2 := i64_andNot_nat c s (by omega) (by omega)
  have x1 : c &&& s < 1024 := Nat.lt_of_le_of_lt Nat.and_le_left hc
  have x2 : c ^^^ (c &&& s) < 1024 := Nat.xor_lt_two_pow (n := 10) hc x1
  have c0 := hz.cell 0 (v := .int .i64 (c : Nat)) rfl
  have c1 := hz.lt
  clear hz
  go_enter Tryd.func26, Tryd.ntmps26
  go_wp2_with fail
  go_big_quiet ((go_at_call 27; exact Calls.quiet_of_same (refSize_any _ (by assumption) _)))
  go_wp2_with fail
  all_goals (go_ret; exact ⟨ret_int (by unfold partsN; omega), below_drewN (Below.refl _ _) _⟩)
set_option maxRecDepth 100000 in
set_option maxHeartbeats 8000000 in
theorem stepNext_any (t : Tst) (oa : Option Addr) (ca : Nat) (ob : Option Addr) (cb : Nat) (vo : Option Addr) (m vc : Nat) (v : Nat → Int) (z : Nat) (w : World) (hM : Mem t oa ob w) (hV : IntsAt w vo m v) (hz : z < 256) :
    Calls Tryd.prog 9 #[t.val oa ca ob cb, .slice vo m vc, .int .u8 (z : Nat)] w fun e w' => e = .returned (.bool true) ∧ Below w.heap.size w w' := by
  have HV := Lib.hid hV
  clear hV
  have HM := Lib.hid hM
  clear hM
  go_enter Tryd.func9, Tryd.ntmps9
  go_wp2_with fail
  have hB0 := below_alloc1 w (.cells #[.slice oa t.n ca, .int .i64 t.leaks, .int .i64 t.least, .slice ob t.m cb] 25)
  have hT0 : TB t oa ca ob cb w.heap.size (w.alloc (.cells #[.slice oa t.n ca, .int .i64 t.leaks, .int .i64 t.least, .slice ob t.m cb] 25)) := Box.new _ 25 w rfl
  have M0 := Lib.hid (HM.out.on hB0)
  obtain ⟨X0, hW⟩ : ∃ X, X = w.alloc (.cells #[.slice oa t.n ca, .int .i64 t.leaks, .int .i64 t.least, .slice ob t.m cb] 25) := ⟨_, rfl⟩
  rw [← hW] at hB0 hT0 M0 ⊢
  clear hW
  have I0 := Lib.hid (show WI t oa ca ob cb w X0 from ⟨hB0, hT0⟩)
  clear hB0 hT0
  refine (large_any t oa ca ob cb _).mono ?_
  rintro e X1 ⟨rfl, hb⟩
  have I1 := Lib.hid (I0.out.on hb)
  have M1 := Lib.hid (M0.out.on hb)
  clear I0 M0 hb
  cases hl : largeB t.n t.m
  case true =>
    clear hl
    go_wp2_with fail
    refine (awake_any _ M1.out.T M1.out.l).mono ?_
    rintro e X2 ⟨rfl, hb⟩
    have I2 := Lib.hid (I1.out.on hb)
    clear hb
    go_wp2_with fail
    go_ret
    exact ⟨rfl, I2.out.low⟩
  case false =>
    have hn : t.n ≤ 1000000 ∧ t.m ≤ 1000000 := by
      simp only [largeB, Bool.or_eq_false_iff, decide_eq_false_iff_not] at hl
      omega
    clear hl
    obtain ⟨hn, hm⟩ := hn
    by_cases hv20 : 20 < m
    · skip
      go_wp2_with fail
      refine (awake_any _ M1.out.T M1.out.l).mono ?_
      rintro e X2 ⟨rfl, hb⟩
      have I2 := Lib.hid (I1.out.on hb)
      clear hb
      go_wp2_with fail
      go_ret
      exact ⟨rfl, I2.out.low⟩
    have hmv : m ≤ 1000000 := by omega
    obtain ⟨c0, c1, c2, c3, c4⟩ := TB.cells I1.out.hT
    have H1 := Lib.hid (fun W (hM : Mem t oa ob W) => suspects_any t oa ca ob cb W hn hm hM.u hM.s hM.T hM.l)
    have H5 := Lib.hid (fun W (hM : Mem t oa ob W) (hV : IntsAt W vo m v) => next_any t oa ca ob cb vo m vc v W hn hm hmv hM.u hM.s hV hM.T hM.l)
    have HV1 := Lib.hid (HV.out.mono I1.out.low)
    rcases next_cases t m v with ⟨hne, hee⟩ | ⟨hne, hee⟩ | ⟨hne, hee⟩ | ⟨hne, hee⟩ | ⟨hne, hee⟩ | ⟨hne, hee⟩ | ⟨hne, hee⟩ | ⟨hne, hee, hval, hm0, hvs⟩
    · skip
      rw [show t.nextR m v = (0, 0) by unfold Tst.nextR; rw [hne]; rfl, hne] at H5
      rw [hee] at H1
      clear hne hee
      go_wp2_with fail
      refine (H5.out _ M1.out HV1.out).mono ?_
      rintro e X2 ⟨rfl, hb⟩
      have I2 := Lib.hid (I1.out.on hb)
      have M2 := Lib.hid (M1.out.on hb)
      clear I1 M1 hb c0 c1 c2 c3 c4
      obtain ⟨c0, c1, c2, c3, c4⟩ := TB.cells I2.out.hT
      go_wp2_with fail
      refine (H1.out _ M2.out).mono ?_
      rintro e X3 ⟨rfl, hb⟩
      have I3 := Lib.hid ((I2.out.on hb).on (below_alloc1 X3 (.cells #[.int .i64 (t.canR : Nat)] 3)))
      have M3 := Lib.hid ((M2.out.on hb).on (below_alloc1 X3 (.cells #[.int .i64 (t.canR : Nat)] 3)))
      clear I2 M2 hb c0 c1 c2 c3 c4
      go_wp2_with fail
      refine (awake_any _ M3.out.T M3.out.l).mono ?_
      rintro e X4 ⟨rfl, hb⟩
      have I4 := Lib.hid (I3.out.on hb)
      clear hb
      go_wp2_with fail
      go_ret
      exact ⟨rfl, I4.out.low⟩
    · skip
      rw [show t.nextR m v = (0, 0) by unfold Tst.nextR; rw [hne]; rfl, hne] at H5
      rw [hee] at H1
      clear hne hee
      go_wp2_with fail
      refine (H5.out _ M1.out HV1.out).mono ?_
      rintro e X2 ⟨rfl, hb⟩
      have I2 := Lib.hid (I1.out.on hb)
      have M2 := Lib.hid (M1.out.on hb)
      clear I1 M1 hb c0 c1 c2 c3 c4
      obtain ⟨c0, c1, c2, c3, c4⟩ := TB.cells I2.out.hT
      go_wp2_with fail
      refine (H1.out _ M2.out).mono ?_
      rintro e X3 ⟨rfl, hb⟩
      have I3 := Lib.hid ((I2.out.on hb).on (below_alloc1 X3 (.cells #[.int .i64 (t.canR : Nat)] 3)))
      have M3 := Lib.hid ((M2.out.on hb).on (below_alloc1 X3 (.cells #[.int .i64 (t.canR : Nat)] 3)))
      clear I2 M2 hb c0 c1 c2 c3 c4
      go_wp2_with fail
      refine (awake_any _ M3.out.T M3.out.l).mono ?_
      rintro e X4 ⟨rfl, hb⟩
      have I4 := Lib.hid (I3.out.on hb)
      clear hb
      go_wp2_with fail
      go_ret
      exact ⟨rfl, I4.out.low⟩
    · skip
      rw [show t.nextR m v = (0, 0) by unfold Tst.nextR; rw [hne]; rfl, hne] at H5
      rw [hee] at H1
      clear hne hee
      go_wp2_with fail
      refine (H5.out _ M1.out HV1.out).mono ?_
      rintro e X2 ⟨rfl, hb⟩
      have I2 := Lib.hid (I1.out.on hb)
      have M2 := Lib.hid (M1.out.on hb)
      clear I1 M1 hb c0 c1 c2 c3 c4
      obtain ⟨c0, c1, c2, c3, c4⟩ := TB.cells I2.out.hT
      go_wp2_with fail
      refine (H1.out _ M2.out).mono ?_
      rintro e X3 ⟨rfl, hb⟩
      have I3 := Lib.hid ((I2.out.on hb).on (below_alloc1 X3 (.cells #[.int .i64 (t.canR : Nat)] 3)))
      have M3 := Lib.hid ((M2.out.on hb).on (below_alloc1 X3 (.cells #[.int .i64 (t.canR : Nat)] 3)))
      clear I2 M2 hb c0 c1 c2 c3 c4
      go_wp2_with fail
      refine (awake_any _ M3.out.T M3.out.l).mono ?_
      rintro e X4 ⟨rfl, hb⟩
      have I4 := Lib.hid (I3.out.on hb)
      clear hb
      go_wp2_with fail
      go_ret
      exact ⟨rfl, I4.out.low⟩
    · skip
      rw [show t.nextR m v = (0, 0) by unfold Tst.nextR; rw [hne]; rfl, hne] at H5
      rw [hee] at H1
      clear hne hee
      go_wp2_with fail
      refine (H5.out _ M1.out HV1.out).mono ?_
      rintro e X2 ⟨rfl, hb⟩
      have I2 := Lib.hid (I1.out.on hb)
      have M2 := Lib.hid (M1.out.on hb)
      clear I1 M1 hb c0 c1 c2 c3 c4
      obtain ⟨c0, c1, c2, c3, c4⟩ := TB.cells I2.out.hT
      go_wp2_with fail
      refine (H1.out _ M2.out).mono ?_
      rintro e X3 ⟨rfl, hb⟩
      have I3 := Lib.hid ((I2.out.on hb).on (below_alloc1 X3 (.cells #[.int .i64 (t.canR : Nat)] 3)))
      have M3 := Lib.hid ((M2.out.on hb).on (below_alloc1 X3 (.cells #[.int .i64 (t.canR : Nat)] 3)))
      clear I2 M2 hb c0 c1 c2 c3 c4
      go_wp2_with fail
      refine (awake_any _ M3.out.T M3.out.l).mono ?_
      rintro e X4 ⟨rfl, hb⟩
      have I4 := Lib.hid (I3.out.on hb)
      clear hb
      go_wp2_with fail
      go_ret
      exact ⟨rfl, I4.out.low⟩
    · skip
      rw [show t.nextR m v = (0, 0) by unfold Tst.nextR; rw [hne]; rfl, hne] at H5
      rw [hee] at H1
      clear hne hee
      go_wp2_with fail
      refine (H5.out _ M1.out HV1.out).mono ?_
      rintro e X2 ⟨rfl, hb⟩
      have I2 := Lib.hid (I1.out.on hb)
      have M2 := Lib.hid (M1.out.on hb)
      clear I1 M1 hb c0 c1 c2 c3 c4
      obtain ⟨c0, c1, c2, c3, c4⟩ := TB.cells I2.out.hT
      go_wp2_with fail
      refine (H1.out _ M2.out).mono ?_
      rintro e X3 ⟨rfl, hb⟩
      have I3 := Lib.hid ((I2.out.on hb).on (below_alloc1 X3 (.cells #[.int .i64 (t.canR : Nat)] 3)))
      have M3 := Lib.hid ((M2.out.on hb).on (below_alloc1 X3 (.cells #[.int .i64 (t.canR : Nat)] 3)))
      clear I2 M2 hb c0 c1 c2 c3 c4
      go_wp2_with fail
      refine (awake_any _ M3.out.T M3.out.l).mono ?_
      rintro e X4 ⟨rfl, hb⟩
      have I4 := Lib.hid (I3.out.on hb)
      clear hb
      go_wp2_with fail
      go_ret
      exact ⟨rfl, I4.out.low⟩
    · skip
      rw [show t.nextR m v = (0, 0) by unfold Tst.nextR; rw [hne]; rfl, hne] at H5
      rw [hee] at H1
      clear hne hee
      go_wp2_with fail
      refine (H5.out _ M1.out HV1.out).mono ?_
      rintro e X2 ⟨rfl, hb⟩
      have I2 := Lib.hid (I1.out.on hb)
      have M2 := Lib.hid (M1.out.on hb)
      clear I1 M1 hb c0 c1 c2 c3 c4
      obtain ⟨c0, c1, c2, c3, c4⟩ := TB.cells I2.out.hT
      go_wp2_with fail
      refine (H1.out _ M2.out).mono ?_
      rintro e X3 ⟨rfl, hb⟩
      have I3 := Lib.hid ((I2.out.on hb).on (below_alloc1 X3 (.cells #[.int .i64 (t.canR : Nat)] 3)))
      have M3 := Lib.hid ((M2.out.on hb).on (below_alloc1 X3 (.cells #[.int .i64 (t.canR : Nat)] 3)))
      clear I2 M2 hb c0 c1 c2 c3 c4
      go_wp2_with fail
      refine (awake_any _ M3.out.T M3.out.l).mono ?_
      rintro e X4 ⟨rfl, hb⟩
      have I4 := Lib.hid (I3.out.on hb)
      clear hb
      go_wp2_with fail
      go_ret
      exact ⟨rfl, I4.out.low⟩
    · skip
      rw [show t.nextR m v = (0, 0) by unfold Tst.nextR; rw [hne]; rfl, hne] at H5
      rw [hee] at H1
      clear hne hee
      go_wp2_with fail
      refine (H5.out _ M1.out HV1.out).mono ?_
      rintro e X2 ⟨rfl, hb⟩
      have I2 := Lib.hid (I1.out.on hb)
      have M2 := Lib.hid (M1.out.on hb)
      clear I1 M1 hb c0 c1 c2 c3 c4
      obtain ⟨c0, c1, c2, c3, c4⟩ := TB.cells I2.out.hT
      go_wp2_with fail
      refine (H1.out _ M2.out).mono ?_
      rintro e X3 ⟨rfl, hb⟩
      have I3 := Lib.hid ((I2.out.on hb).on (below_alloc1 X3 (.cells #[.int .i64 (t.canR : Nat)] 3)))
      have M3 := Lib.hid ((M2.out.on hb).on (below_alloc1 X3 (.cells #[.int .i64 (t.canR : Nat)] 3)))
      clear I2 M2 hb c0 c1 c2 c3 c4
      go_wp2_with fail
      refine (awake_any _ M3.out.T M3.out.l).mono ?_
      rintro e X4 ⟨rfl, hb⟩
      have I4 := Lib.hid (I3.out.on hb)
      clear hb
      go_wp2_with fail
      go_ret
      exact ⟨rfl, I4.out.low⟩
    · obtain ⟨k, hk⟩ : ∃ k, m = k + 1 := ⟨m - 1, by omega⟩
      have B := best_spec (verd t).can (fun i => (v i).toNat) k
      rw [← hk] at B
      obtain ⟨b1, b2, b3⟩ := B
      have hcl := (verd_bd hval).c
      have ec : t.canR = (verd t).can := by unfold Tst.canR; rw [hee]; rfl
      have en : t.nextR m v = bestV (verd t).can (fun i => (v i).toNat) m := by unfold Tst.nextR; rw [hne]; rfl
      rw [en, hne] at H5
      rw [ec, hee] at H1
      obtain ⟨c, hc⟩ : ∃ c, c = (verd t).can := ⟨_, rfl⟩
      rw [← hc] at hcl H1 H5 b1 b2 b3
      obtain ⟨q, hq⟩ : ∃ q, q = bestV c (fun i => (v i).toNat) m := ⟨_, rfl⟩
      rw [← hq] at H5 b1 b2 b3
      obtain ⟨q1, q2⟩ := q
      dsimp only at H5 b1 b2 b3
      obtain ⟨o, ho⟩ : ∃ o, o = z % m := ⟨_, rfl⟩
      have hom : o < m := by rw [ho]; exact Nat.mod_lt _ hm0
      obtain ⟨b4, b5⟩ := b3 o hom
      obtain ⟨s1, hs1⟩ : ∃ s1 : Nat, s1 = (v q1).toNat := ⟨_, rfl⟩
      obtain ⟨s2, hs2⟩ : ∃ s2 : Nat, s2 = (v o).toNat := ⟨_, rfl⟩
      have e1 : v q1 = (s1 : Int) := by have := (hvs q1 b1).1; omega
      have e2 : v o = (s2 : Int) := by have := (hvs o hom).1; omega
      have l1 : s1 < 1024 := by have := (hvs q1 b1).2; omega
      have l2 : s2 < 1024 := by have := (hvs o hom).2; omega
      rw [← hs1] at b2
      rw [← hs2] at b4 b5
      have b6 := parts_le (c := c) (s := s1)
      rw [b2] at b6
      have b7 := sizeN_le c
      obtain ⟨n, hn9⟩ : ∃ n, n = partsN c s2 := ⟨_, rfl⟩
      rw [← hn9] at b4 b5
      have hn10 : n ≤ 10 := by rw [hn9]; exact Nat.le_trans (parts_le (c := c) (s := s2)) b7
      have HP1 := Lib.hid (fun g W (hz : Box g #[.int .i64 (c : Nat)] 3 W) => parts_any g c s1 W hcl l1 hz)
      have HP2 := Lib.hid (fun g W (hz : Box g #[.int .i64 (c : Nat)] 3 W) => parts_any g c s2 W hcl l2 hz)
      rw [b2] at HP1
      rw [← hn9] at HP2
      have hrem : (z : Int) % (m : Int) = (o : Int) := by rw [ho]; rfl
      have hmz : ((m : Int) == 0) = false := by simp; omega
      have HE1 := Lib.hid e1
      have HE2 := Lib.hid e2
      have HO := Lib.hid hrem
      clear hc hq hs1 hs2 hn9 ho b2 e1 e2 b3 hvs hk ec en hne hee hval hrem
      go_wp2_with fail
      refine (H5.out _ M1.out HV1.out).mono ?_
      rintro e X2 ⟨rfl, hb⟩
      have I2 := Lib.hid (I1.out.on hb)
      have M2 := Lib.hid (M1.out.on hb)
      clear I1 M1 hb c0 c1 c2 c3 c4
      obtain ⟨c0, c1, c2, c3, c4⟩ := TB.cells I2.out.hT
      go_wp2_with fail
      refine (H1.out _ M2.out).mono ?_
      rintro e X3 ⟨rfl, hb⟩
      have I3 := Lib.hid ((I2.out.on hb).on (below_alloc1 X3 (.cells #[.int .i64 (c : Nat)] 3)))
      have M3 := Lib.hid ((M2.out.on hb).on (below_alloc1 X3 (.cells #[.int .i64 (c : Nat)] 3)))
      have Z3 := Lib.hid (Box.new (g := X3.heap.size) #[.int .i64 (c : Nat)] 3 X3 rfl)
      clear I2 M2 hb c0 c1 c2 c3 c4
      go_upto_region 5 with fail
      obtain ⟨X4, hW⟩ : ∃ X, X = X3.alloc (.cells #[.int .i64 (c : Nat)] 3) := ⟨_, rfl⟩
      obtain ⟨gc, hgc⟩ : ∃ g, g = X3.heap.size := ⟨_, rfl⟩
      rw [← hW] at I3 M3 Z3 ⊢
      rw [← hgc] at Z3 ⊢
      clear hW hgc
      have k0 := Z3.out.cell 0 (v := .int .i64 (c : Nat)) rfl
      have k1 := Z3.out.lt
      obtain ⟨bo, off, hvo, hlt0, d0⟩ := (HV.out.mono I3.out.low) o hom
      subst hvo
      obtain ⟨bo2, off2, e9, -, d1⟩ := (HV.out.mono I3.out.low) q1 b1
      cases e9
      rw [HE2.out] at d0
      rw [HE1.out] at d1
      go_upto_region 11 with fail
      rw [HO.out]
      go_wp2_with fail
      refine (HP2.out gc _ Z3.out).mono ?_
      rintro e X5 ⟨rfl, hb⟩
      have I5 := Lib.hid (I3.out.on hb)
      have M5 := Lib.hid (M3.out.on hb)
      have Z5 := Lib.hid (Z3.out.below hb)
      have d2 := (hb.cell (p := ⟨bo, off + q1, none⟩) hlt0).trans d1
      have hlt5 : bo < X5.heap.size := Nat.lt_of_lt_of_le hlt0 hb.size
      clear I3 M3 Z3 hb d0 d1 k0 k1 hlt0
      have hfin : n = q2 → q1 ≤ o := b5
      have HF := Lib.hid hfin
      clear hfin b5
      go_upto_region 12 with fail
      go_wp2_with fail
      refine (HP1.out gc _ Z5.out).mono ?_
      rintro e X6 ⟨rfl, hb⟩
      have I6 := Lib.hid (I5.out.on hb)
      have M6 := Lib.hid (M5.out.on hb)
      have Z6 := Lib.hid (Z5.out.below hb)
      clear I5 M5 Z5 hb d2 hlt5
      have k0 := Z6.out.cell 0 (v := .int .i64 (c : Nat)) rfl
      have k1 := Z6.out.lt
      have D4 : decide (q2 < sizeN c + 1) = true := by simp; omega
      by_cases hgt : q2 < n
      · have D1 : decide (q2 ≤ n) = true := by simp; omega
        have D2 : decide (q2 < n) = true := by simp; omega
        go_wp2_with (go_at_call 27; refine (refSize_any c hcl _).mono ?_; rintro e w' ⟨rfl, rfl⟩)
        all_goals first
          | omega
          | (refine (awake_any _ M6.out.T M6.out.l).mono ?_
             rintro e X7 ⟨rfl, hb⟩
             have I7 := Lib.hid (I6.out.on hb)
             clear hb
             go_wp2_with fail
             go_ret
             exact ⟨rfl, I7.out.low⟩)
      · obtain rfl : n = q2 := by omega
        have hqo : q1 ≤ o := HF.out rfl
        have D3 : decide (q1 ≤ o) = true := by simp; omega
        have D1 : decide (n ≤ n) = true := by simp
        have D2 : decide (n < n) = false := by simp
        go_wp2_with (go_at_call 27; refine (refSize_any c hcl _).mono ?_; rintro e w' ⟨rfl, rfl⟩)
        all_goals first
          | omega
          | (refine (awake_any _ M6.out.T M6.out.l).mono ?_
             rintro e X7 ⟨rfl, hb⟩
             have I7 := Lib.hid (I6.out.on hb)
             clear hb
             go_wp2_with fail
             go_ret
             exact ⟨rfl, I7.out.low⟩)
end Go.Proofs.YtpognhnmkjpipaaDoor
