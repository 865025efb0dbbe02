/- The document's Water says what the program's says. -/
import Derived.Test.YthoefcpeagclbaaW18
namespace Go.Proofs.Ythoefcpeagclbaa
open Go.RowKit
theorem down_tu (t u : Int) (w : World) (hu : 0 < u) (h : -4000000000000000000 ≤ t ∧ t ≤ 4000000000000000000) :
    Calls Try.prog 27 #[.agg #[.int .i64 t, .int .i64 u]] w fun e w' => e = .returned (.int .i64 (rnd 0 t u)) ∧ Below w.heap.size w w' := down_any ⟨t, u⟩ w hu h
theorem up_tu (t u : Int) (w : World) (hu : 0 < u) (h : -4000000000000000000 ≤ t ∧ t ≤ 4000000000000000000) :
    Calls Try.prog 28 #[.agg #[.int .i64 t, .int .i64 u]] w fun e w' => e = .returned (.int .i64 (rnd 1 t u)) ∧ Below w.heap.size w w' := up_any ⟨t, u⟩ w hu h
set_option maxRecDepth 100000 in
set_option maxHeartbeats 4000000 in
theorem refWater_any (b : Bnch) (x : Ctch) (oa : Option Addr) (cap : Nat) (w : World) (hn : b.n ≤ 1000000) (hT : MarksAt w oa b.n b.t) :
    Calls Try.prog 12 #[b.val oa cap, x.val] w fun e w' => e = .returned (.tuple #[(b.waterR x).1.val, .int .i64 (b.waterR x).2]) ∧ Below w.heap.size w w' := by
  have HT := Lib.hid hT
  clear hT
  go_enter Try.func12, Try.ntmps12
  go_wp2_with fail
  have HB := Lib.hid ((two_bench 26 b oa cap x w).old (.cells #[.int .i64 0, .int .i64 0] 24))
  have HC := Lib.hid ((two_catch 26 b oa cap x w).old (.cells #[.int .i64 0, .int .i64 0] 24))
  have HS := Lib.hid (Box.new (g := w.heap.size + 1 + 1) #[.int .i64 0, .int .i64 0] 24 (two 26 b oa cap x w) (by simp))
  have hbw : Below w.heap.size w ((two 26 b oa cap x w).alloc (.cells #[.int .i64 0, .int .i64 0] 24)) := (two_below 26 b oa cap x w).alloc (by simp; omega) _
  refine (refBench_any b oa cap _ hn (HT.out.mono hbw)).mono ?_
  rintro e w1 ⟨rfl, hb1⟩
  have HB1 := Lib.hid (HB.out.below hb1)
  have HC1 := Lib.hid (HC.out.below hb1)
  have HS1 := Lib.hid (HS.out.below hb1)
  have hbw1 := hbw.trans (hb1.mono hbw.size)
  clear hb1 hbw HB HC HS
  obtain ⟨b0, b1, b2, b3, b4, b5, b6, b7⟩ := BB.cells (b := b) HB1.out
  obtain ⟨y0, y1, y2, y3, y4, y5, y6⟩ := CB.cells (x := x) HC1.out
  have s0 := HS1.out.cell 0 rfl
  have s1 := HS1.out.cell 1 rfl
  have s2 := HS1.out.frozen 0
  have s3 := HS1.out.frozen 1
  by_cases hv : b.valid = true
  case neg =>
    replace hv : b.valid = false := by simpa using hv
    rw [hv]
    go_wp2_with fail
    have pq := put2 s0 s1 (.int .i64 0) (.int .i64 0)
    refine bodyPost_ret (v := .tuple #[.agg #[.int .i64 0, .int .i64 0], .int .i64 1]) (by simp [results, Try.results12, go_sem, pq.1, pq.2]) rfl ⟨by rw [Bnch.waterR, hv]; rfl, (by repeat' (first | exact Below.refl _ _ | assumption | apply below_drewN | apply Below.drew | (refine Below.alloc ?_ ?_ _) | (refine Below.setCell ?_ ?_ _) | (simp; done) | (simp; omega) | omega))⟩
  rw [hv]
  have HV := Lib.hid hv
  have hn1 := (valid_all hv).2.1
  clear hv
  go_wp2_with fail
  refine (refCatch_any b x oa cap _ (by omega) hn (HT.out.mono hbw1)).mono ?_
  rintro e w2 ⟨rfl, hb2⟩
  have HB2 := Lib.hid (HB1.out.below hb2)
  have HC2 := Lib.hid (HC1.out.below hb2)
  have HS2 := Lib.hid (HS1.out.below hb2)
  have hbw2 := hbw1.trans (hb2.mono hbw1.size)
  clear hb2 hbw1 HB1 HC1 HS1 b0 b1 b2 b3 b4 b5 b6 b7 y0 y1 y2 y3 y4 y5 y6 s0 s1 s2 s3
  obtain ⟨b0, b1, b2, b3, b4, b5, b6, b7⟩ := BB.cells (b := b) HB2.out
  obtain ⟨y0, y1, y2, y3, y4, y5, y6⟩ := CB.cells (x := x) HC2.out
  have s0 := HS2.out.cell 0 rfl
  have s1 := HS2.out.cell 1 rfl
  have s2 := HS2.out.frozen 0
  have s3 := HS2.out.frozen 1
  by_cases hr : b.rightB x = true
  case neg =>
    replace hr : b.rightB x = false := by simpa using hr
    have HR := Lib.hid hr
    rw [hr]
    clear hr
    go_wp2_with fail
    have pq := put2 s0 s1 (.int .i64 0) (.int .i64 0)
    refine bodyPost_ret (v := .tuple #[.agg #[.int .i64 0, .int .i64 0], .int .i64 2]) (by simp [results, Try.results12, go_sem, pq.1, pq.2]) rfl ⟨by rw [Bnch.waterR, HV.out, HR.out]; rfl, (by repeat' (first | exact Below.refl _ _ | assumption | apply below_drewN | apply Below.drew | (refine Below.alloc ?_ ?_ _) | (refine Below.setCell ?_ ?_ _) | (simp; done) | (simp; omega) | omega))⟩
  rw [hr]
  have HR := Lib.hid hr
  clear hr
  go_wp2_with fail
  refine (refWaterF_any b x oa cap _ HV.out HR.out (HT.out.mono hbw2)).mono ?_
  rintro e w4 ⟨rfl, hb4⟩
  have HB4 := Lib.hid (HB2.out.below hb4)
  have HS4 := Lib.hid (HS2.out.below hb4)
  have hbw4 := hbw2.trans (hb4.mono hbw2.size)
  clear hb4 HB2 HC2 HS2 hbw2 b0 b1 b2 b3 b4 b5 b6 b7 y0 y1 y2 y3 y4 y5 y6 s0 s1 s2 s3
  have HO := Lib.hid (fun hi => water_ok (b := b) (x := x) HV.out HR.out hi)
  have hno := waterR_no (b := b) (x := x) HV.out HR.out
  have hyes := waterR_yes (b := b) (x := x) HV.out HR.out
  obtain ⟨⟨f1, f2, is9⟩, hF⟩ : ∃ p, p = b.waterF x := ⟨_, rfl⟩
  rw [← hF] at HO hno hyes ⊢
  dsimp only at HO hno hyes ⊢
  have HNO := Lib.hid hno
  have HYES := Lib.hid hyes
  clear hF hno hyes
  have hai := Lib.hid (valid_all HV.out).2.2.2.2.2
  go_upto_region 6 with fail
  have HB5 := Lib.hid ((HB4.out.old (.cells #[.int .i64 f1.top, .int .i64 f1.under] 50)).old (.cells #[.int .i64 f2.top, .int .i64 f2.under] 50))
  have HS5 := Lib.hid ((HS4.out.old (.cells #[.int .i64 f1.top, .int .i64 f1.under] 50)).old (.cells #[.int .i64 f2.top, .int .i64 f2.under] 50))
  have T7 := (Box.new #[.int .i64 f1.top, .int .i64 f1.under] 50 w4 rfl).old (.cells #[.int .i64 f2.top, .int .i64 f2.under] 50)
  have T8 : Box (w4.heap.size + 1) #[.int .i64 f2.top, .int .i64 f2.under] 50 ((w4.alloc (.cells #[.int .i64 f1.top, .int .i64 f1.under] 50)).alloc (.cells #[.int .i64 f2.top, .int .i64 f2.under] 50)) := Box.new _ 50 _ (by simp)
  have hbw5 : Below w.heap.size w ((w4.alloc (.cells #[.int .i64 f1.top, .int .i64 f1.under] 50)).alloc (.cells #[.int .i64 f2.top, .int .i64 f2.under] 50)) := (hbw4.alloc hbw4.size _).alloc (by have := hbw4.size; simp; omega) _
  have q1 : ¬ w.heap.size + 1 + 1 = w4.heap.size := by have := HS4.out.lt; omega
  have q2 : ¬ w.heap.size + 1 + 1 = w4.heap.size + 1 := by have := HS4.out.lt; omega
  obtain ⟨g, hg⟩ : ∃ g, g = w4.heap.size := ⟨_, rfl⟩
  obtain ⟨w5, hw5⟩ : ∃ X, X = (w4.alloc (.cells #[.int .i64 f1.top, .int .i64 f1.under] 50)).alloc (.cells #[.int .i64 f2.top, .int .i64 f2.under] 50) := ⟨_, rfl⟩
  rw [← hw5] at HB5 HS5 T7 T8 hbw5 ⊢
  rw [← hg] at T7 T8 q1 q2 ⊢
  clear hw5 hg HB4 HS4 hbw4
  obtain ⟨b0, b1, b2, b3, b4, b5, b6, b7⟩ := BB.cells (b := b) HB5.out
  have s0 := HS5.out.cell 0 rfl
  have s1 := HS5.out.cell 1 rfl
  have s2 := HS5.out.frozen 0
  have s3 := HS5.out.frozen 1
  have ls := HS5.out.lt
  have t0 := T7.cell 0 rfl
  have t1 := T7.cell 1 rfl
  have t2 := T8.cell 0 rfl
  have t3 := T8.cell 1 rfl
  have l7 := T7.lt
  have l8 := T8.lt
  by_cases hs : (is9 && decide (f1.under ≤ f1.top)) = true
  case neg =>
    have RR := Lib.hid (HNO.out hs)
    have hs2 : (is9 && decide (f1.under ≤ f1.top)) = false := by simpa using hs
    rw [hs2]
    clear hs hs2
    go_wp2_with fail
    have pq := put2 s0 s1 (.int .i64 0) (.int .i64 0)
    refine bodyPost_ret (v := .tuple #[.agg #[.int .i64 0, .int .i64 0], .int .i64 10]) (by simp [results, Try.results12, go_sem, pq.1, pq.2]) rfl ⟨by rw [RR.out], (by repeat' (first | exact Below.refl _ _ | assumption | apply below_drewN | apply Below.drew | (refine Below.alloc ?_ ?_ _) | (refine Below.setCell ?_ ?_ _) | (simp; done) | (simp; omega) | omega))⟩
  have RR := Lib.hid (HYES.out hs)
  rw [hs]
  simp only [Bool.and_eq_true, decide_eq_true_eq] at hs
  obtain ⟨rfl, hle⟩ := hs
  obtain ⟨O1, O2⟩ := HO.out rfl
  have d1 := O1.down
  have d2 := O2.up
  have d3 := hai.out
  have e1 : rnd 0 f1.top f1.under = f1.down := rfl
  have e2 : rnd 1 f2.top f2.under = f2.up := rfl
  have hw1 : IntKind.i64.wrap (rnd 0 f1.top f1.under + b.air.lo) = rnd 0 f1.top f1.under + b.air.lo := IntWalk.i64_in _ (by rw [e1]; omega)
  have hw2 : IntKind.i64.wrap (rnd 1 f2.top f2.under + b.air.hi) = rnd 1 f2.top f2.under + b.air.hi := IntWalk.i64_in _ (by rw [e2]; omega)
  clear e1 e2 d1 d2 d3
  go_wp2_with fail
  go_region_held3 (fun w' => w'.cell? ⟨g, 0, none⟩ = some (.int .i64 f1.top) ∧ w'.cell? ⟨g, 1, none⟩ = some (.int .i64 f1.under) ∧ w'.cell? ⟨g + 1, 0, none⟩ = some (.int .i64 f2.top) ∧ w'.cell? ⟨g + 1, 1, none⟩ = some (.int .i64 f2.under) ∧ w'.cell? ⟨w.heap.size, 5, none⟩ = some (.int .i64 b.air.lo) ∧ w'.cell? ⟨w.heap.size, 6, none⟩ = some (.int .i64 b.air.hi)) ((refine ⟨Two.cell (p := w.heap.size + 1 + 1) (q := w.heap.size + 1 + 1) (w := w5) ?_ t0 l7 (by omega) (by omega), Two.cell (p := w.heap.size + 1 + 1) (q := w.heap.size + 1 + 1) (w := w5) ?_ t1 l7 (by omega) (by omega), Two.cell (p := w.heap.size + 1 + 1) (q := w.heap.size + 1 + 1) (w := w5) ?_ t2 l8 (by omega) (by omega), Two.cell (p := w.heap.size + 1 + 1) (q := w.heap.size + 1 + 1) (w := w5) ?_ t3 l8 (by omega) (by omega), Two.cell (p := w.heap.size + 1 + 1) (q := w.heap.size + 1 + 1) (w := w5) ?_ b5 b7 (by omega) (by omega), Two.cell (p := w.heap.size + 1 + 1) (q := w.heap.size + 1 + 1) (w := w5) ?_ b6 b7 (by omega) (by omega)⟩ <;> (repeat' (first | assumption | exact Two.refl _ _ _ | apply Two.drew | apply Two.setP)))) (first | ((go_at_call 27; refine (down_tu _ _ _ (by first | exact O1.u0 | exact O2.u0) (by first | exact O1.t2 | exact O2.t2)).mono ?_; rintro e w9 ⟨rfl, hb9⟩; have hbp : Below w5.heap.size w5 w9 := Below.trans (by repeat' (first | assumption | exact Below.refl _ _ | apply Below.drew)) (hb9.mono (by first | omega | (simp; done) | (simp; omega))); have hsp := hbp.size; have htp : Two (w.heap.size + 1 + 1) (w.heap.size + 1 + 1) w5 w9 := Two.below (Two.refl _ _ _) hbp; have y0 := (hbp.cell (p := ⟨w.heap.size + 1 + 1, 0, none⟩) ls).trans s0; have y1 := (hbp.cell (p := ⟨w.heap.size + 1 + 1, 1, none⟩) ls).trans s1; have z0 := (hbp.frozen (p := ⟨w.heap.size + 1 + 1, 0, none⟩) ls).trans s2; have z1 := (hbp.frozen (p := ⟨w.heap.size + 1 + 1, 1, none⟩) ls).trans s3)) | ((go_at_call 28; refine (up_tu _ _ _ (by first | exact O1.u0 | exact O2.u0) (by first | exact O1.t2 | exact O2.t2)).mono ?_; rintro e w9 ⟨rfl, hb9⟩; have hbp : Below w5.heap.size w5 w9 := Below.trans (by repeat' (first | assumption | exact Below.refl _ _ | apply Below.drew)) (hb9.mono (by first | omega | (simp; done) | (simp; omega))); have hsp := hbp.size; have htp : Two (w.heap.size + 1 + 1) (w.heap.size + 1 + 1) w5 w9 := Two.below (Two.refl _ _ _) hbp; have y0 := (hbp.cell (p := ⟨w.heap.size + 1 + 1, 0, none⟩) ls).trans s0; have y1 := (hbp.cell (p := ⟨w.heap.size + 1 + 1, 1, none⟩) ls).trans s1; have z0 := (hbp.frozen (p := ⟨w.heap.size + 1 + 1, 0, none⟩) ls).trans s2; have z1 := (hbp.frozen (p := ⟨w.heap.size + 1 + 1, 1, none⟩) ls).trans s3)))
  all_goals
    go_wp2_with fail
    have pq := put2 y0 y1 (.int .i64 (rnd 0 f1.top f1.under + b.air.lo)) (.int .i64 (rnd 1 f2.top f2.under + b.air.hi))
    refine bodyPost_ret (v := .tuple #[.agg #[.int .i64 (rnd 0 f1.top f1.under + b.air.lo), .int .i64 (rnd 1 f2.top f2.under + b.air.hi)], .int .i64 0]) (by simp [results, Try.results12, go_sem, pq.1, pq.2]) rfl ⟨by rw [RR.out]; rfl, ((hbw5.trans (hbp.mono hbw5.size)).setCell (by dsimp only; omega) _).setCell (by dsimp only; omega) _⟩
end Go.Proofs.Ythoefcpeagclbaa
