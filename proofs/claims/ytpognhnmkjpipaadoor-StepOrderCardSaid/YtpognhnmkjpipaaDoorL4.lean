/- StepSuspects and StepLeaks return true. -/
import Derived.Test.YtpognhnmkjpipaaDoorL3
namespace Go.Proofs.YtpognhnmkjpipaaDoor
open Go.RowKit
/-- the memory that a law asks for, after new memory -/
structure Mem (t : Tst) (oa : Option Addr) (ob : Option Addr) (W : World) : Prop where
  u : SpnsAt W oa t.n t.u
  s : StpsAt W ob t.m t.s
  T : TabAt 1 Lib.deBruijn64tab W
  l : 1 < W.heap.size
theorem Mem.on {t : Tst} {oa ob : Option Addr} {A B : World} (h : Mem t oa ob A) (hb : Below A.heap.size A B) : Mem t oa ob B :=
  ⟨h.u.mono hb, h.s.mono hb, fun j hj => (hb.cell (p := ⟨1, j, none⟩) h.l).trans (h.T j hj), Nat.lt_of_lt_of_le h.l hb.size⟩
set_option maxRecDepth 100000 in
set_option maxHeartbeats 8000000 in
theorem stepLeaks_any (t : Tst) (oa : Option Addr) (ca : Nat) (ob : Option Addr) (cb : Nat) (x : Int) (w : World) (hM : Mem t oa ob w) :
    Calls Tryd.prog 4 #[t.val oa ca ob cb, .int .i64 x] w fun e w' => e = .returned (.bool true) ∧ Below w.heap.size w w' := by
  have HM := Lib.hid hM
  clear hM
  go_enter Tryd.func4, Tryd.ntmps4
  go_wp2_with fail
  have hB0 := below_alloc1 w (.cells #[.slice oa t.n ca, .int .i64 t.leaks, .int .i64 t.least, .slice ob t.m cb] 25)
  have hT0 : TB t oa ca ob cb w.heap.size (w.alloc (.cells #[.slice oa t.n ca, .int .i64 t.leaks, .int .i64 t.least, .slice ob t.m cb] 25)) := Box.new _ 25 w rfl
  have M0 := Lib.hid (HM.out.on hB0)
  obtain ⟨X0, hW⟩ : ∃ X, X = w.alloc (.cells #[.slice oa t.n ca, .int .i64 t.leaks, .int .i64 t.least, .slice ob t.m cb] 25) := ⟨_, rfl⟩
  rw [← hW] at hB0 hT0 M0 ⊢
  clear hW
  have I0 := Lib.hid (show WI t oa ca ob cb w X0 from ⟨hB0, hT0⟩)
  clear hB0 hT0
  refine (large_any t oa ca ob cb _).mono ?_
  rintro e X1 ⟨rfl, hb⟩
  have I1 := Lib.hid (I0.out.on hb)
  have M1 := Lib.hid (M0.out.on hb)
  clear I0 M0 hb
  cases hl : largeB t.n t.m
  case true =>
    clear hl
    go_wp2_with fail
    refine (awake_any _ M1.out.T M1.out.l).mono ?_
    rintro e X2 ⟨rfl, hb⟩
    have I2 := Lib.hid (I1.out.on hb)
    clear hb
    go_wp2_with fail
    go_ret
    exact ⟨rfl, I2.out.low⟩
  case false =>
    have hn : t.n ≤ 1000000 ∧ t.m ≤ 1000000 := by
      simp only [largeB, Bool.or_eq_false_iff, decide_eq_false_iff_not] at hl
      omega
    clear hl
    obtain ⟨hn, hm⟩ := hn
    obtain ⟨k1, k2⟩ := leakErr_eq t x
    have K1 := Lib.hid k1
    have K2 := Lib.hid k2
    clear k1 k2
    obtain ⟨c0, c1, c2, c3, c4⟩ := TB.cells I1.out.hT
    go_wp2_with fail
    refine (leak_any t oa ca ob cb x _ hn hm M1.out.u M1.out.s M1.out.T M1.out.l).mono ?_
    rintro e X2 ⟨rfl, hb⟩
    rw [K1.out, K2.out]
    obtain ⟨sp, hsp⟩ : ∃ s, s = docLeak t x := ⟨_, rfl⟩
    obtain ⟨er, her⟩ : ∃ s, s = docLeakErr t x := ⟨_, rfl⟩
    rw [← hsp, ← her]
    have HD := Lib.hid (fun W h1 h2 => docLeak_any t oa ca ob cb x W hn hm h1 h2)
    rw [← hsp, ← her] at HD
    clear hsp her K1 K2 c0 c1 c2 c3 c4
    have I2 := Lib.hid ((I1.out.on hb).on (below_alloc1 X2 (.cells #[.int .i64 sp.lo, .int .i64 sp.hi] 37)))
    have M2 := Lib.hid ((M1.out.on hb).on (below_alloc1 X2 (.cells #[.int .i64 sp.lo, .int .i64 sp.hi] 37)))
    have ZA := Lib.hid (Box.new (g := X2.heap.size) #[.int .i64 sp.lo, .int .i64 sp.hi] 37 X2 rfl)
    clear I1 M1 hb
    go_upto_region 4 with fail
    obtain ⟨X3, hW⟩ : ∃ X, X = X2.alloc (.cells #[.int .i64 sp.lo, .int .i64 sp.hi] 37) := ⟨_, rfl⟩
    obtain ⟨ga, hga⟩ : ∃ g, g = X2.heap.size := ⟨_, rfl⟩
    rw [← hW] at I2 M2 ZA ⊢
    rw [← hga] at ZA ⊢
    clear hW hga
    obtain ⟨c0, c1, c2, c3, c4⟩ := TB.cells I2.out.hT
    go_wp2_with fail
    refine (HD.out _ M2.out.u M2.out.s).mono ?_
    rintro e X4 ⟨rfl, hb⟩
    have I4 := Lib.hid ((I2.out.on hb).on (below_alloc1 X4 (.cells #[.int .i64 sp.lo, .int .i64 sp.hi] 37)))
    have M4 := Lib.hid ((M2.out.on hb).on (below_alloc1 X4 (.cells #[.int .i64 sp.lo, .int .i64 sp.hi] 37)))
    have ZB := Lib.hid (Box.new (g := X4.heap.size) #[.int .i64 sp.lo, .int .i64 sp.hi] 37 X4 rfl)
    have ZA2 := Lib.hid ((ZA.out.below hb).old (.cells #[.int .i64 sp.lo, .int .i64 sp.hi] 37))
    clear I2 M2 ZA hb c0 c1 c2 c3 c4
    go_upto_region 5 with fail
    have a0 := ZA2.out.cell 0 (v := .int .i64 sp.lo) rfl
    have a1 := ZA2.out.cell 1 (v := .int .i64 sp.hi) rfl
    have b0 := ZB.out.cell 0 (v := .int .i64 sp.lo) rfl
    have b1 := ZB.out.cell 1 (v := .int .i64 sp.hi) rfl
    go_wp2_with fail
    refine (awake_any _ M4.out.T M4.out.l).mono ?_
    rintro e X5 ⟨rfl, hb⟩
    have I5 := Lib.hid (I4.out.on hb)
    clear hb
    go_wp2_with fail
    go_ret
    exact ⟨rfl, I5.out.low⟩
set_option maxRecDepth 100000 in
set_option maxHeartbeats 8000000 in
theorem stepSuspects_any (t : Tst) (oa : Option Addr) (ca : Nat) (ob : Option Addr) (cb : Nat) (vo : Option Addr) (m vc : Nat) (v : Nat → Int) (w : World) (hM : Mem t oa ob w) (hV : IntsAt w vo m v) :
    Calls Tryd.prog 3 #[t.val oa ca ob cb, .slice vo m vc] w fun e w' => e = .returned (.bool true) ∧ Below w.heap.size w w' := by
  have HV := Lib.hid hV
  clear hV
  have HM := Lib.hid hM
  clear hM
  go_enter Tryd.func3, Tryd.ntmps3
  go_wp2_with fail
  have hB0 := below_alloc1 w (.cells #[.slice oa t.n ca, .int .i64 t.leaks, .int .i64 t.least, .slice ob t.m cb] 25)
  have hT0 : TB t oa ca ob cb w.heap.size (w.alloc (.cells #[.slice oa t.n ca, .int .i64 t.leaks, .int .i64 t.least, .slice ob t.m cb] 25)) := Box.new _ 25 w rfl
  have M0 := Lib.hid (HM.out.on hB0)
  obtain ⟨X0, hW⟩ : ∃ X, X = w.alloc (.cells #[.slice oa t.n ca, .int .i64 t.leaks, .int .i64 t.least, .slice ob t.m cb] 25) := ⟨_, rfl⟩
  rw [← hW] at hB0 hT0 M0 ⊢
  clear hW
  have I0 := Lib.hid (show WI t oa ca ob cb w X0 from ⟨hB0, hT0⟩)
  clear hB0 hT0
  refine (large_any t oa ca ob cb _).mono ?_
  rintro e X1 ⟨rfl, hb⟩
  have I1 := Lib.hid (I0.out.on hb)
  have M1 := Lib.hid (M0.out.on hb)
  clear I0 M0 hb
  cases hl : largeB t.n t.m
  case true =>
    clear hl
    go_wp2_with fail
    refine (awake_any _ M1.out.T M1.out.l).mono ?_
    rintro e X2 ⟨rfl, hb⟩
    have I2 := Lib.hid (I1.out.on hb)
    clear hb
    go_wp2_with fail
    go_ret
    exact ⟨rfl, I2.out.low⟩
  case false =>
    have hn : t.n ≤ 1000000 ∧ t.m ≤ 1000000 := by
      simp only [largeB, Bool.or_eq_false_iff, decide_eq_false_iff_not] at hl
      omega
    clear hl
    obtain ⟨hn, hm⟩ := hn
    by_cases hv20 : 20 < m
    · skip
      go_wp2_with fail
      refine (awake_any _ M1.out.T M1.out.l).mono ?_
      rintro e X2 ⟨rfl, hb⟩
      have I2 := Lib.hid (I1.out.on hb)
      clear hb
      go_wp2_with fail
      go_ret
      exact ⟨rfl, I2.out.low⟩
    have hmv : m ≤ 1000000 := by omega
    obtain ⟨c0, c1, c2, c3, c4⟩ := TB.cells I1.out.hT
    obtain ⟨a, ha⟩ : ∃ s, s = docCan t := ⟨_, rfl⟩
    obtain ⟨b, hb⟩ : ∃ s, s = docSurely t := ⟨_, rfl⟩
    obtain ⟨er, her⟩ : ∃ s, s = docErr t := ⟨_, rfl⟩
    obtain ⟨so, hso⟩ : ∃ s, s = docSound t := ⟨_, rfl⟩
    obtain ⟨p1, hp1⟩ : ∃ s, s = (t.nextR m v).1 := ⟨_, rfl⟩
    obtain ⟨p2, hp2⟩ : ∃ s, s = (t.nextR m v).2 := ⟨_, rfl⟩
    obtain ⟨pe, hpe⟩ : ∃ s, s = docNextErr t m v := ⟨_, rfl⟩
    have H1 := Lib.hid (fun W (hM : Mem t oa ob W) => suspects_any t oa ca ob cb W hn hm hM.u hM.s hM.T hM.l)
    have H2 := Lib.hid (fun W (hM : Mem t oa ob W) => docSuspects_any t oa ca ob cb W hn hm hM.u hM.s)
    have H3 := Lib.hid (fun W (hM : Mem t oa ob W) => sound_any t oa ca ob cb W hn hm hM.u hM.s hM.T hM.l)
    have H4 := Lib.hid (fun W (hM : Mem t oa ob W) => docSound_any t oa ca ob cb W hn hm hM.u hM.s)
    have H5 := Lib.hid (fun W (hM : Mem t oa ob W) (hV : IntsAt W vo m v) => next_any t oa ca ob cb vo m vc v W hn hm hmv hM.u hM.s hV hM.T hM.l)
    have H6 := Lib.hid (fun W (hM : Mem t oa ob W) (hV : IntsAt W vo m v) => docNext_any t oa ca ob cb vo m vc v W hn hm hmv hM.u hM.s hV)
    rw [can_eq, surely_eq, err_eq, ← ha, ← hb, ← her] at H1
    rw [← ha, ← hb, ← her] at H2
    rw [sound_eq, err_eq, ← hso, ← her] at H3
    rw [← hso, ← her] at H4
    rw [nextErr_eq, ← hp1, ← hp2, ← hpe] at H5
    rw [next_eq, ← hp1, ← hp2, ← hpe] at H6
    have HV1 := Lib.hid (HV.out.mono I1.out.low)
    clear ha hb her hso hp1 hp2 hpe
    go_wp2_with fail
    refine (H1.out _ M1.out).mono ?_
    rintro e X2 ⟨rfl, hb⟩
    have I2 := Lib.hid (I1.out.on hb)
    have M2 := Lib.hid (M1.out.on hb)
    clear I1 M1 hb c0 c1 c2 c3 c4
    obtain ⟨c0, c1, c2, c3, c4⟩ := TB.cells I2.out.hT
    go_wp2_with fail
    refine (H2.out _ M2.out).mono ?_
    rintro e X3 ⟨rfl, hb⟩
    have I3 := Lib.hid (I2.out.on hb)
    have M3 := Lib.hid (M2.out.on hb)
    clear I2 M2 hb c0 c1 c2 c3 c4
    obtain ⟨c0, c1, c2, c3, c4⟩ := TB.cells I3.out.hT
    go_wp2_with fail
    refine (H3.out _ M3.out).mono ?_
    rintro e X4 ⟨rfl, hb⟩
    have I4 := Lib.hid (I3.out.on hb)
    have M4 := Lib.hid (M3.out.on hb)
    clear I3 M3 hb c0 c1 c2 c3 c4
    obtain ⟨c0, c1, c2, c3, c4⟩ := TB.cells I4.out.hT
    go_wp2_with fail
    refine (H4.out _ M4.out).mono ?_
    rintro e X5 ⟨rfl, hb⟩
    have I5 := Lib.hid (I4.out.on hb)
    have M5 := Lib.hid (M4.out.on hb)
    clear I4 M4 hb c0 c1 c2 c3 c4
    obtain ⟨c0, c1, c2, c3, c4⟩ := TB.cells I5.out.hT
    go_wp2_with fail
    refine (H5.out _ M5.out (HV.out.mono I5.out.low)).mono ?_
    rintro e X6 ⟨rfl, hb⟩
    have I6 := Lib.hid (I5.out.on hb)
    have M6 := Lib.hid (M5.out.on hb)
    clear I5 M5 hb c0 c1 c2 c3 c4
    obtain ⟨c0, c1, c2, c3, c4⟩ := TB.cells I6.out.hT
    go_wp2_with fail
    refine (H6.out _ M6.out (HV.out.mono I6.out.low)).mono ?_
    rintro e X7 ⟨rfl, hb⟩
    have I7 := Lib.hid (I6.out.on hb)
    have M7 := Lib.hid (M6.out.on hb)
    clear I6 M6 hb c0 c1 c2 c3 c4
    go_wp2_with fail
    refine (awake_any _ M7.out.T M7.out.l).mono ?_
    rintro e X8 ⟨rfl, hb⟩
    have I8 := Lib.hid (I7.out.on hb)
    clear hb
    go_wp2_with fail
    go_ret
    exact ⟨rfl, I8.out.low⟩
end Go.Proofs.YtpognhnmkjpipaaDoor
