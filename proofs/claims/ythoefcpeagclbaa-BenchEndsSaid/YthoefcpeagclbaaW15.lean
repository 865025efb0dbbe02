/- Water returns what goes through the meters, or why it is not known. -/
import Derived.Test.YthoefcpeagclbaaP1
namespace Go.Proofs.Ythoefcpeagclbaa
open Go.RowKit
set_option maxRecDepth 100000 in
set_option maxHeartbeats 4000000 in
theorem Water_any (b : Bnch) (x : Ctch) (oa : Option Addr) (cap : Nat) (w : World) (hn : b.n ≤ 1000000) (hcap : b.n ≤ cap) (hT : MarksAt w oa b.n b.t) :
    Calls Try.prog 11 #[b.val oa cap, x.val] w fun e w' => e = .returned (.tuple #[(b.waterR x).1.val, .int .i64 (b.waterR x).2]) ∧ Below w.heap.size w w' := by
  have HT := Lib.hid hT
  clear hT
  go_enter Try.func11, Try.ntmps11
  go_wp2_with fail
  have HB := Lib.hid ((two_bench 26 b oa cap x w).old (.cells #[.int .i64 0, .int .i64 0] 24))
  have HC := Lib.hid ((two_catch 26 b oa cap x w).old (.cells #[.int .i64 0, .int .i64 0] 24))
  have HS := Lib.hid (Box.new (g := w.heap.size + 1 + 1) #[.int .i64 0, .int .i64 0] 24 (two 26 b oa cap x w) (by simp))
  have hbw : Below w.heap.size w ((two 26 b oa cap x w).alloc (.cells #[.int .i64 0, .int .i64 0] 24)) := (two_below 26 b oa cap x w).alloc (by simp; omega) _
  refine (isBench_any b oa cap _ hn (HT.out.mono hbw)).mono ?_
  rintro e w1 ⟨rfl, hb1⟩
  have HB1 := Lib.hid (HB.out.below hb1)
  have HC1 := Lib.hid (HC.out.below hb1)
  have HS1 := Lib.hid (HS.out.below hb1)
  have hbw1 := hbw.trans (hb1.mono hbw.size)
  clear hb1 hbw HB HC HS
  obtain ⟨b0, b1, b2, b3, b4, b5, b6, b7⟩ := BB.cells (b := b) HB1.out
  have s0 := HS1.out.cell 0 rfl
  have s1 := HS1.out.cell 1 rfl
  have s2 := HS1.out.frozen 0
  have s3 := HS1.out.frozen 1
  by_cases hv : b.valid = true
  case neg =>
    replace hv : b.valid = false := by simpa using hv
    rw [hv]
    go_wp2_with fail
    have pq := put2 s0 s1 (.int .i64 0) (.int .i64 0)
    refine bodyPost_ret (v := .tuple #[.agg #[.int .i64 0, .int .i64 0], .int .i64 1]) (by simp [results, Try.results11, go_sem, pq.1, pq.2]) rfl ⟨by rw [Bnch.waterR, hv]; rfl, (by repeat' (first | exact Below.refl _ _ | assumption | apply below_drewN | apply Below.drew | (refine Below.alloc ?_ ?_ _) | (refine Below.setCell ?_ ?_ _) | (simp; done) | (simp; omega) | omega))⟩
  rw [hv]
  have HV := Lib.hid hv
  have hn1 := (valid_all hv).2.1
  clear hv
  have hm1 : ∀ w : World, (method 238 99 (b.val oa cap) "meterworks/bench.right").run Try.prog w = .ok (75, b.val oa cap) w := fun _ => by kernel_rfl
  have hm2 : ∀ w : World, (method 238 99 (b.val oa cap) "meterworks/bench.water").run Try.prog w = .ok (76, b.val oa cap) w := fun _ => by kernel_rfl
  have hm3 : ∀ w : World, (method 238 100 (b.val oa cap) "meterworks/bench.right").run Try.prog w = .ok (87, b.val oa cap) w := fun _ => by kernel_rfl
  have hm4 : ∀ w : World, (method 238 100 (b.val oa cap) "meterworks/bench.water").run Try.prog w = .ok (88, b.val oa cap) w := fun _ => by kernel_rfl
  by_cases hw : b.weighs = true
  · have HW := Lib.hid hw
    clear hw
    go_wp2_with fail
    go_cut [6] from 14 to 19 (fun s6 wx => s6 = .iface 99 (b.val oa cap) ∧ Below w1.heap.size w1 wx)
    case first =>
      go_region_held3 (fun w' => w'.cell? ⟨w.heap.size, 0, none⟩ = some (.bool b.weighs) ∧ w'.cell? ⟨w.heap.size, 1, none⟩ = some (.slice oa b.n cap) ∧ w'.cell? ⟨w.heap.size, 2, none⟩ = some (.int .i64 b.off) ∧ w'.cell? ⟨w.heap.size, 3, none⟩ = some (.int .i64 b.buoy.lo) ∧ w'.cell? ⟨w.heap.size, 4, none⟩ = some (.int .i64 b.buoy.hi) ∧ w'.cell? ⟨w.heap.size, 5, none⟩ = some (.int .i64 b.air.lo) ∧ w'.cell? ⟨w.heap.size, 6, none⟩ = some (.int .i64 b.air.hi)) ((refine ⟨(Below.cell (p := ⟨w.heap.size, 0, none⟩) (w := w1) ?_ b7).trans b0, (Below.cell (p := ⟨w.heap.size, 1, none⟩) (w := w1) ?_ b7).trans b1, (Below.cell (p := ⟨w.heap.size, 2, none⟩) (w := w1) ?_ b7).trans b2, (Below.cell (p := ⟨w.heap.size, 3, none⟩) (w := w1) ?_ b7).trans b3, (Below.cell (p := ⟨w.heap.size, 4, none⟩) (w := w1) ?_ b7).trans b4, (Below.cell (p := ⟨w.heap.size, 5, none⟩) (w := w1) ?_ b7).trans b5, (Below.cell (p := ⟨w.heap.size, 6, none⟩) (w := w1) ?_ b7).trans b6⟩ <;> (repeat' (first | assumption | exact Below.refl _ _ | apply Below.drew)))) (first | ((go_at_call 34; refine (methods_any _).mono ?_; rintro e w9 ⟨rfl, hM, hb9⟩; have hbp : Below w1.heap.size w1 w9 := Below.trans (by repeat' (first | assumption | exact Below.refl _ _ | apply Below.drew)) (hb9.mono (by first | omega | (simp; done) | (simp; omega))); have hsp := hbp.size; have hl : (Instr.lookup 70 (.map (some w1.heap.size)) (.bool b.weighs) false).run Try.prog w9 = .ok (.func (.func 53) #[] #[]) w9 := (by rw [HW.out]; exact run_lookup_bool (P := Try.prog) (t := 70) (j := 0) Try.underlying70 Try.underlying4 (k := true) hM rfl))) | ((go_at_call 53; refine (scaleOf_any b oa cap _).mono ?_; rintro e w9 ⟨rfl, hb9⟩; have hbp : Below w1.heap.size w1 w9 := Below.trans (by repeat' (first | assumption | exact Below.refl _ _ | apply Below.drew)) (hb9.mono (by first | omega | (simp; done) | (simp; omega))); have hsp := hbp.size)))
      all_goals
        go_wp2_with fail
        go_meet
        exact ⟨rfl, hbp⟩
    case rest =>
      obtain ⟨rfl, hbx⟩ := hcut
      have HB2 := Lib.hid (HB1.out.below hbx)
      have HC2 := Lib.hid (HC1.out.below hbx)
      have HS2 := Lib.hid (HS1.out.below hbx)
      have hbw2 := hbw1.trans (hbx.mono hbw1.size)
      clear HB1 HC1 HS1 hbw1 hbx b0 b1 b2 b3 b4 b5 b6 b7 s0 s1 s2 s3
      obtain ⟨y0, y1, y2, y3, y4, y5, y6⟩ := CB.cells (x := x) HC2.out
      go_wp2_with fail
      refine (scaleRight_any b x oa cap _ (by omega) hn (HT.out.mono hbw2)).mono ?_
      rintro e w3 ⟨rfl, hb3⟩
      have HB3 := Lib.hid (HB2.out.below hb3)
      have HC3 := Lib.hid (HC2.out.below hb3)
      have HS3 := Lib.hid (HS2.out.below hb3)
      have hbw3 := hbw2.trans (hb3.mono hbw2.size)
      clear hb3 HB2 HC2 HS2 hbw2 y0 y1 y2 y3 y4 y5 y6
      have s0 := HS3.out.cell 0 rfl
      have s1 := HS3.out.cell 1 rfl
      have s2 := HS3.out.frozen 0
      have s3 := HS3.out.frozen 1
      by_cases hr : b.scaleOk x = true
      case neg =>
        have hr2 : b.rightB x = false := by rw [Bnch.rightB, HW.out]; simpa using hr
        have HR := Lib.hid hr2
        replace hr : b.scaleOk x = false := by simpa using hr
        rw [hr]
        clear hr2
        go_wp2_with fail
        have pq := put2 s0 s1 (.int .i64 0) (.int .i64 0)
        refine bodyPost_ret (v := .tuple #[.agg #[.int .i64 0, .int .i64 0], .int .i64 2]) (by simp [results, Try.results11, go_sem, pq.1, pq.2]) rfl ⟨by rw [Bnch.waterR, HV.out, HR.out]; rfl, (by repeat' (first | exact Below.refl _ _ | assumption | apply below_drewN | apply Below.drew | (refine Below.alloc ?_ ?_ _) | (refine Below.setCell ?_ ?_ _) | (simp; done) | (simp; omega) | omega))⟩
      rw [hr]
      have hr2 : b.rightB x = true := by rw [Bnch.rightB, HW.out]; exact hr
      have HR := Lib.hid hr2
      have HR1 := Lib.hid hr
      clear hr hr2
      obtain ⟨y0, y1, y2, y3, y4, y5, y6⟩ := CB.cells (x := x) HC3.out
      have hrb2 : ¬ w.heap.size + 1 = w3.heap.size := by omega
      go_wp2_with fail
      refine (scaleWater_any b x oa cap _ HV.out HR1.out hcap (HT.out.mono hbw3)).mono ?_
      rintro e w4 ⟨rfl, hb4⟩
      have hwf : b.waterF x = b.scaleW x := by rw [Bnch.waterF, HW.out]; rfl
      rw [← hwf]
      have HB4 := Lib.hid (HB3.out.below hb4)
      have HS4 := Lib.hid (HS3.out.below hb4)
      have hbw4 := hbw3.trans (hb4.mono hbw3.size)
      clear hb4 HB3 HC3 HS3 hbw3 y0 y1 y2 y3 y4 y5 y6 s0 s1 s2 s3 hwf hrb2
      have HO := Lib.hid (fun hi => water_ok (b := b) (x := x) HV.out HR.out hi)
      have hno := waterR_no (b := b) (x := x) HV.out HR.out
      have hyes := waterR_yes (b := b) (x := x) HV.out HR.out
      obtain ⟨⟨f1, f2, is9⟩, hF⟩ : ∃ p, p = b.waterF x := ⟨_, rfl⟩
      rw [← hF] at HO hno hyes ⊢
      dsimp only at HO hno hyes ⊢
      have HNO := Lib.hid hno
      have HYES := Lib.hid hyes
      clear hF hno hyes
      have hai := Lib.hid (valid_all HV.out).2.2.2.2.2
      go_upto_region 7 with fail
      have HB5 := Lib.hid ((HB4.out.old (.cells #[.int .i64 f1.top, .int .i64 f1.under] 74)).old (.cells #[.int .i64 f2.top, .int .i64 f2.under] 74))
      have HS5 := Lib.hid ((HS4.out.old (.cells #[.int .i64 f1.top, .int .i64 f1.under] 74)).old (.cells #[.int .i64 f2.top, .int .i64 f2.under] 74))
      have T7 := (Box.new #[.int .i64 f1.top, .int .i64 f1.under] 74 w4 rfl).old (.cells #[.int .i64 f2.top, .int .i64 f2.under] 74)
      have T8 : Box (w4.heap.size + 1) #[.int .i64 f2.top, .int .i64 f2.under] 74 ((w4.alloc (.cells #[.int .i64 f1.top, .int .i64 f1.under] 74)).alloc (.cells #[.int .i64 f2.top, .int .i64 f2.under] 74)) := Box.new _ 74 _ (by simp)
      have hbw5 : Below w.heap.size w ((w4.alloc (.cells #[.int .i64 f1.top, .int .i64 f1.under] 74)).alloc (.cells #[.int .i64 f2.top, .int .i64 f2.under] 74)) := (hbw4.alloc hbw4.size _).alloc (by have := hbw4.size; simp; omega) _
      have q1 : ¬ w.heap.size + 1 + 1 = w4.heap.size := by have := HS4.out.lt; omega
      have q2 : ¬ w.heap.size + 1 + 1 = w4.heap.size + 1 := by have := HS4.out.lt; omega
      obtain ⟨g, hg⟩ : ∃ g, g = w4.heap.size := ⟨_, rfl⟩
      obtain ⟨w5, hw5⟩ : ∃ X, X = (w4.alloc (.cells #[.int .i64 f1.top, .int .i64 f1.under] 74)).alloc (.cells #[.int .i64 f2.top, .int .i64 f2.under] 74) := ⟨_, rfl⟩
      rw [← hw5] at HB5 HS5 T7 T8 hbw5 ⊢
      rw [← hg] at T7 T8 q1 q2 ⊢
      clear hw5 hg HB4 HS4 hbw4
      obtain ⟨b0, b1, b2, b3, b4, b5, b6, b7⟩ := BB.cells (b := b) HB5.out
      have s0 := HS5.out.cell 0 rfl
      have s1 := HS5.out.cell 1 rfl
      have s2 := HS5.out.frozen 0
      have s3 := HS5.out.frozen 1
      have ls := HS5.out.lt
      have t0 := T7.cell 0 rfl
      have t1 := T7.cell 1 rfl
      have t2 := T8.cell 0 rfl
      have t3 := T8.cell 1 rfl
      have l7 := T7.lt
      have l8 := T8.lt
      by_cases hs : (is9 && decide (f1.under ≤ f1.top)) = true
      case neg =>
        have RR := Lib.hid (HNO.out hs)
        have hs2 : is9 = false ∨ (is9 = true ∧ decide (f1.top < f1.under) = true) := by
          cases is9
          · exact .inl rfl
          · refine .inr ⟨rfl, ?_⟩
            simp at hs
            simpa using hs
        clear hs
        rcases hs2 with rfl | ⟨rfl, hlt⟩
        all_goals
          go_wp2_with fail
          have pq := put2 s0 s1 (.int .i64 0) (.int .i64 0)
          refine bodyPost_ret (v := .tuple #[.agg #[.int .i64 0, .int .i64 0], .int .i64 10]) (by simp [results, Try.results11, go_sem, pq.1, pq.2]) rfl ⟨by rw [RR.out], (by repeat' (first | exact Below.refl _ _ | assumption | apply below_drewN | apply Below.drew | (refine Below.alloc ?_ ?_ _) | (refine Below.setCell ?_ ?_ _) | (simp; done) | (simp; omega) | omega))⟩
      have RR := Lib.hid (HYES.out hs)
      simp only [Bool.and_eq_true, decide_eq_true_eq] at hs
      obtain ⟨rfl, hle⟩ := hs
      have hlt : decide (f1.top < f1.under) = false := by simp; omega
      obtain ⟨O1, O2⟩ := HO.out rfl
      have d1 := O1.down
      have d2 := O2.up
      have d3 := hai.out
      have e1 : rnd 0 f1.top f1.under = f1.down := rfl
      have e2 : rnd 1 f2.top f2.under = f2.up := rfl
      have hw1 : IntKind.i64.wrap (rnd 0 f1.top f1.under + b.air.lo) = rnd 0 f1.top f1.under + b.air.lo := IntWalk.i64_in _ (by rw [e1]; omega)
      have hw2 : IntKind.i64.wrap (rnd 1 f2.top f2.under + b.air.hi) = rnd 1 f2.top f2.under + b.air.hi := IntWalk.i64_in _ (by rw [e2]; omega)
      clear e1 e2 d1 d2 d3
      go_wp2_with fail
      go_region_held3 (fun w' => w'.cell? ⟨g, 0, none⟩ = some (.int .i64 f1.top) ∧ w'.cell? ⟨g, 1, none⟩ = some (.int .i64 f1.under) ∧ w'.cell? ⟨g + 1, 0, none⟩ = some (.int .i64 f2.top) ∧ w'.cell? ⟨g + 1, 1, none⟩ = some (.int .i64 f2.under) ∧ w'.cell? ⟨w.heap.size, 5, none⟩ = some (.int .i64 b.air.lo) ∧ w'.cell? ⟨w.heap.size, 6, none⟩ = some (.int .i64 b.air.hi)) ((refine ⟨Two.cell (p := w.heap.size + 1 + 1) (q := w.heap.size + 1 + 1) (w := w5) ?_ t0 l7 (by omega) (by omega), Two.cell (p := w.heap.size + 1 + 1) (q := w.heap.size + 1 + 1) (w := w5) ?_ t1 l7 (by omega) (by omega), Two.cell (p := w.heap.size + 1 + 1) (q := w.heap.size + 1 + 1) (w := w5) ?_ t2 l8 (by omega) (by omega), Two.cell (p := w.heap.size + 1 + 1) (q := w.heap.size + 1 + 1) (w := w5) ?_ t3 l8 (by omega) (by omega), Two.cell (p := w.heap.size + 1 + 1) (q := w.heap.size + 1 + 1) (w := w5) ?_ b5 b7 (by omega) (by omega), Two.cell (p := w.heap.size + 1 + 1) (q := w.heap.size + 1 + 1) (w := w5) ?_ b6 b7 (by omega) (by omega)⟩ <;> (repeat' (first | assumption | exact Two.refl _ _ _ | apply Two.drew | apply Two.setP)))) (first | ((go_at_call 35; refine (round_tu _ _ _ _ (by simp) (by first | exact O1.u0 | exact O2.u0) (by first | exact O1.t2 | exact O2.t2)).mono ?_; rintro e w9 ⟨rfl, hb9⟩; have hbp : Below w5.heap.size w5 w9 := Below.trans (by repeat' (first | assumption | exact Below.refl _ _ | apply Below.drew)) (hb9.mono (by first | omega | (simp; done) | (simp; omega))); have hsp := hbp.size; have htp : Two (w.heap.size + 1 + 1) (w.heap.size + 1 + 1) w5 w9 := Two.below (Two.refl _ _ _) hbp; have y0 := (hbp.cell (p := ⟨w.heap.size + 1 + 1, 0, none⟩) ls).trans s0; have y1 := (hbp.cell (p := ⟨w.heap.size + 1 + 1, 1, none⟩) ls).trans s1; have z0 := (hbp.frozen (p := ⟨w.heap.size + 1 + 1, 0, none⟩) ls).trans s2; have z1 := (hbp.frozen (p := ⟨w.heap.size + 1 + 1, 1, none⟩) ls).trans s3)))
      all_goals
        go_wp2_with fail
        have pq := put2 y0 y1 (.int .i64 (rnd 0 f1.top f1.under + b.air.lo)) (.int .i64 (rnd 1 f2.top f2.under + b.air.hi))
        refine bodyPost_ret (v := .tuple #[.agg #[.int .i64 (rnd 0 f1.top f1.under + b.air.lo), .int .i64 (rnd 1 f2.top f2.under + b.air.hi)], .int .i64 0]) (by simp [results, Try.results11, go_sem, pq.1, pq.2]) rfl ⟨by rw [RR.out]; rfl, ((hbw5.trans (hbp.mono hbw5.size)).setCell (by dsimp only; omega) _).setCell (by dsimp only; omega) _⟩
  · replace hw : b.weighs = false := by simpa using hw
    have HW := Lib.hid hw
    clear hw
    go_wp2_with fail
    go_cut [6] from 14 to 19 (fun s6 wx => s6 = .iface 100 (b.val oa cap) ∧ Below w1.heap.size w1 wx)
    case first =>
      go_region_held3 (fun w' => w'.cell? ⟨w.heap.size, 0, none⟩ = some (.bool b.weighs) ∧ w'.cell? ⟨w.heap.size, 1, none⟩ = some (.slice oa b.n cap) ∧ w'.cell? ⟨w.heap.size, 2, none⟩ = some (.int .i64 b.off) ∧ w'.cell? ⟨w.heap.size, 3, none⟩ = some (.int .i64 b.buoy.lo) ∧ w'.cell? ⟨w.heap.size, 4, none⟩ = some (.int .i64 b.buoy.hi) ∧ w'.cell? ⟨w.heap.size, 5, none⟩ = some (.int .i64 b.air.lo) ∧ w'.cell? ⟨w.heap.size, 6, none⟩ = some (.int .i64 b.air.hi)) ((refine ⟨(Below.cell (p := ⟨w.heap.size, 0, none⟩) (w := w1) ?_ b7).trans b0, (Below.cell (p := ⟨w.heap.size, 1, none⟩) (w := w1) ?_ b7).trans b1, (Below.cell (p := ⟨w.heap.size, 2, none⟩) (w := w1) ?_ b7).trans b2, (Below.cell (p := ⟨w.heap.size, 3, none⟩) (w := w1) ?_ b7).trans b3, (Below.cell (p := ⟨w.heap.size, 4, none⟩) (w := w1) ?_ b7).trans b4, (Below.cell (p := ⟨w.heap.size, 5, none⟩) (w := w1) ?_ b7).trans b5, (Below.cell (p := ⟨w.heap.size, 6, none⟩) (w := w1) ?_ b7).trans b6⟩ <;> (repeat' (first | assumption | exact Below.refl _ _ | apply Below.drew)))) (first | ((go_at_call 34; refine (methods_any _).mono ?_; rintro e w9 ⟨rfl, hM, hb9⟩; have hbp : Below w1.heap.size w1 w9 := Below.trans (by repeat' (first | assumption | exact Below.refl _ _ | apply Below.drew)) (hb9.mono (by first | omega | (simp; done) | (simp; omega))); have hsp := hbp.size; have hl : (Instr.lookup 70 (.map (some w1.heap.size)) (.bool b.weighs) false).run Try.prog w9 = .ok (.func (.func 54) #[] #[]) w9 := (by rw [HW.out]; exact run_lookup_bool (P := Try.prog) (t := 70) (j := 1) Try.underlying70 Try.underlying4 (k := false) hM rfl))) | ((go_at_call 54; refine (tankOf_any b oa cap _).mono ?_; rintro e w9 ⟨rfl, hb9⟩; have hbp : Below w1.heap.size w1 w9 := Below.trans (by repeat' (first | assumption | exact Below.refl _ _ | apply Below.drew)) (hb9.mono (by first | omega | (simp; done) | (simp; omega))); have hsp := hbp.size)))
      all_goals
        go_wp2_with fail
        go_meet
        exact ⟨rfl, hbp⟩
    case rest =>
      obtain ⟨rfl, hbx⟩ := hcut
      have HB2 := Lib.hid (HB1.out.below hbx)
      have HC2 := Lib.hid (HC1.out.below hbx)
      have HS2 := Lib.hid (HS1.out.below hbx)
      have hbw2 := hbw1.trans (hbx.mono hbw1.size)
      clear HB1 HC1 HS1 hbw1 hbx b0 b1 b2 b3 b4 b5 b6 b7 s0 s1 s2 s3
      obtain ⟨y0, y1, y2, y3, y4, y5, y6⟩ := CB.cells (x := x) HC2.out
      go_wp2_with fail
      refine (tankRight_any b x oa cap _ (by omega) hn (HT.out.mono hbw2)).mono ?_
      rintro e w3 ⟨rfl, hb3⟩
      have HB3 := Lib.hid (HB2.out.below hb3)
      have HC3 := Lib.hid (HC2.out.below hb3)
      have HS3 := Lib.hid (HS2.out.below hb3)
      have hbw3 := hbw2.trans (hb3.mono hbw2.size)
      clear hb3 HB2 HC2 HS2 hbw2 y0 y1 y2 y3 y4 y5 y6
      have s0 := HS3.out.cell 0 rfl
      have s1 := HS3.out.cell 1 rfl
      have s2 := HS3.out.frozen 0
      have s3 := HS3.out.frozen 1
      by_cases hr : b.tankOk x = true
      case neg =>
        have hr2 : b.rightB x = false := by rw [Bnch.rightB, HW.out]; simpa using hr
        have HR := Lib.hid hr2
        replace hr : b.tankOk x = false := by simpa using hr
        rw [hr]
        clear hr2
        go_wp2_with fail
        have pq := put2 s0 s1 (.int .i64 0) (.int .i64 0)
        refine bodyPost_ret (v := .tuple #[.agg #[.int .i64 0, .int .i64 0], .int .i64 2]) (by simp [results, Try.results11, go_sem, pq.1, pq.2]) rfl ⟨by rw [Bnch.waterR, HV.out, HR.out]; rfl, (by repeat' (first | exact Below.refl _ _ | assumption | apply below_drewN | apply Below.drew | (refine Below.alloc ?_ ?_ _) | (refine Below.setCell ?_ ?_ _) | (simp; done) | (simp; omega) | omega))⟩
      rw [hr]
      have hr2 : b.rightB x = true := by rw [Bnch.rightB, HW.out]; exact hr
      have HR := Lib.hid hr2
      have HR1 := Lib.hid hr
      clear hr hr2
      obtain ⟨y0, y1, y2, y3, y4, y5, y6⟩ := CB.cells (x := x) HC3.out
      have hrb2 : ¬ w.heap.size + 1 = w3.heap.size := by omega
      go_wp2_with fail
      refine (tankWater_any b x oa cap _ HV.out HR1.out hcap (HT.out.mono hbw3)).mono ?_
      rintro e w4 ⟨rfl, hb4⟩
      have hwf : b.waterF x = b.tankW x := by rw [Bnch.waterF, HW.out]; rfl
      rw [← hwf]
      have HB4 := Lib.hid (HB3.out.below hb4)
      have HS4 := Lib.hid (HS3.out.below hb4)
      have hbw4 := hbw3.trans (hb4.mono hbw3.size)
      clear hb4 HB3 HC3 HS3 hbw3 y0 y1 y2 y3 y4 y5 y6 s0 s1 s2 s3 hwf hrb2
      have HO := Lib.hid (fun hi => water_ok (b := b) (x := x) HV.out HR.out hi)
      have hno := waterR_no (b := b) (x := x) HV.out HR.out
      have hyes := waterR_yes (b := b) (x := x) HV.out HR.out
      obtain ⟨⟨f1, f2, is9⟩, hF⟩ : ∃ p, p = b.waterF x := ⟨_, rfl⟩
      rw [← hF] at HO hno hyes ⊢
      dsimp only at HO hno hyes ⊢
      have HNO := Lib.hid hno
      have HYES := Lib.hid hyes
      clear hF hno hyes
      have hai := Lib.hid (valid_all HV.out).2.2.2.2.2
      go_upto_region 7 with fail
      have HB5 := Lib.hid ((HB4.out.old (.cells #[.int .i64 f1.top, .int .i64 f1.under] 74)).old (.cells #[.int .i64 f2.top, .int .i64 f2.under] 74))
      have HS5 := Lib.hid ((HS4.out.old (.cells #[.int .i64 f1.top, .int .i64 f1.under] 74)).old (.cells #[.int .i64 f2.top, .int .i64 f2.under] 74))
      have T7 := (Box.new #[.int .i64 f1.top, .int .i64 f1.under] 74 w4 rfl).old (.cells #[.int .i64 f2.top, .int .i64 f2.under] 74)
      have T8 : Box (w4.heap.size + 1) #[.int .i64 f2.top, .int .i64 f2.under] 74 ((w4.alloc (.cells #[.int .i64 f1.top, .int .i64 f1.under] 74)).alloc (.cells #[.int .i64 f2.top, .int .i64 f2.under] 74)) := Box.new _ 74 _ (by simp)
      have hbw5 : Below w.heap.size w ((w4.alloc (.cells #[.int .i64 f1.top, .int .i64 f1.under] 74)).alloc (.cells #[.int .i64 f2.top, .int .i64 f2.under] 74)) := (hbw4.alloc hbw4.size _).alloc (by have := hbw4.size; simp; omega) _
      have q1 : ¬ w.heap.size + 1 + 1 = w4.heap.size := by have := HS4.out.lt; omega
      have q2 : ¬ w.heap.size + 1 + 1 = w4.heap.size + 1 := by have := HS4.out.lt; omega
      obtain ⟨g, hg⟩ : ∃ g, g = w4.heap.size := ⟨_, rfl⟩
      obtain ⟨w5, hw5⟩ : ∃ X, X = (w4.alloc (.cells #[.int .i64 f1.top, .int .i64 f1.under] 74)).alloc (.cells #[.int .i64 f2.top, .int .i64 f2.under] 74) := ⟨_, rfl⟩
      rw [← hw5] at HB5 HS5 T7 T8 hbw5 ⊢
      rw [← hg] at T7 T8 q1 q2 ⊢
      clear hw5 hg HB4 HS4 hbw4
      obtain ⟨b0, b1, b2, b3, b4, b5, b6, b7⟩ := BB.cells (b := b) HB5.out
      have s0 := HS5.out.cell 0 rfl
      have s1 := HS5.out.cell 1 rfl
      have s2 := HS5.out.frozen 0
      have s3 := HS5.out.frozen 1
      have ls := HS5.out.lt
      have t0 := T7.cell 0 rfl
      have t1 := T7.cell 1 rfl
      have t2 := T8.cell 0 rfl
      have t3 := T8.cell 1 rfl
      have l7 := T7.lt
      have l8 := T8.lt
      by_cases hs : (is9 && decide (f1.under ≤ f1.top)) = true
      case neg =>
        have RR := Lib.hid (HNO.out hs)
        have hs2 : is9 = false ∨ (is9 = true ∧ decide (f1.top < f1.under) = true) := by
          cases is9
          · exact .inl rfl
          · refine .inr ⟨rfl, ?_⟩
            simp at hs
            simpa using hs
        clear hs
        rcases hs2 with rfl | ⟨rfl, hlt⟩
        all_goals
          go_wp2_with fail
          have pq := put2 s0 s1 (.int .i64 0) (.int .i64 0)
          refine bodyPost_ret (v := .tuple #[.agg #[.int .i64 0, .int .i64 0], .int .i64 10]) (by simp [results, Try.results11, go_sem, pq.1, pq.2]) rfl ⟨by rw [RR.out], (by repeat' (first | exact Below.refl _ _ | assumption | apply below_drewN | apply Below.drew | (refine Below.alloc ?_ ?_ _) | (refine Below.setCell ?_ ?_ _) | (simp; done) | (simp; omega) | omega))⟩
      have RR := Lib.hid (HYES.out hs)
      simp only [Bool.and_eq_true, decide_eq_true_eq] at hs
      obtain ⟨rfl, hle⟩ := hs
      have hlt : decide (f1.top < f1.under) = false := by simp; omega
      obtain ⟨O1, O2⟩ := HO.out rfl
      have d1 := O1.down
      have d2 := O2.up
      have d3 := hai.out
      have e1 : rnd 0 f1.top f1.under = f1.down := rfl
      have e2 : rnd 1 f2.top f2.under = f2.up := rfl
      have hw1 : IntKind.i64.wrap (rnd 0 f1.top f1.under + b.air.lo) = rnd 0 f1.top f1.under + b.air.lo := IntWalk.i64_in _ (by rw [e1]; omega)
      have hw2 : IntKind.i64.wrap (rnd 1 f2.top f2.under + b.air.hi) = rnd 1 f2.top f2.under + b.air.hi := IntWalk.i64_in _ (by rw [e2]; omega)
      clear e1 e2 d1 d2 d3
      go_wp2_with fail
      go_region_held3 (fun w' => w'.cell? ⟨g, 0, none⟩ = some (.int .i64 f1.top) ∧ w'.cell? ⟨g, 1, none⟩ = some (.int .i64 f1.under) ∧ w'.cell? ⟨g + 1, 0, none⟩ = some (.int .i64 f2.top) ∧ w'.cell? ⟨g + 1, 1, none⟩ = some (.int .i64 f2.under) ∧ w'.cell? ⟨w.heap.size, 5, none⟩ = some (.int .i64 b.air.lo) ∧ w'.cell? ⟨w.heap.size, 6, none⟩ = some (.int .i64 b.air.hi)) ((refine ⟨Two.cell (p := w.heap.size + 1 + 1) (q := w.heap.size + 1 + 1) (w := w5) ?_ t0 l7 (by omega) (by omega), Two.cell (p := w.heap.size + 1 + 1) (q := w.heap.size + 1 + 1) (w := w5) ?_ t1 l7 (by omega) (by omega), Two.cell (p := w.heap.size + 1 + 1) (q := w.heap.size + 1 + 1) (w := w5) ?_ t2 l8 (by omega) (by omega), Two.cell (p := w.heap.size + 1 + 1) (q := w.heap.size + 1 + 1) (w := w5) ?_ t3 l8 (by omega) (by omega), Two.cell (p := w.heap.size + 1 + 1) (q := w.heap.size + 1 + 1) (w := w5) ?_ b5 b7 (by omega) (by omega), Two.cell (p := w.heap.size + 1 + 1) (q := w.heap.size + 1 + 1) (w := w5) ?_ b6 b7 (by omega) (by omega)⟩ <;> (repeat' (first | assumption | exact Two.refl _ _ _ | apply Two.drew | apply Two.setP)))) (first | ((go_at_call 35; refine (round_tu _ _ _ _ (by simp) (by first | exact O1.u0 | exact O2.u0) (by first | exact O1.t2 | exact O2.t2)).mono ?_; rintro e w9 ⟨rfl, hb9⟩; have hbp : Below w5.heap.size w5 w9 := Below.trans (by repeat' (first | assumption | exact Below.refl _ _ | apply Below.drew)) (hb9.mono (by first | omega | (simp; done) | (simp; omega))); have hsp := hbp.size; have htp : Two (w.heap.size + 1 + 1) (w.heap.size + 1 + 1) w5 w9 := Two.below (Two.refl _ _ _) hbp; have y0 := (hbp.cell (p := ⟨w.heap.size + 1 + 1, 0, none⟩) ls).trans s0; have y1 := (hbp.cell (p := ⟨w.heap.size + 1 + 1, 1, none⟩) ls).trans s1; have z0 := (hbp.frozen (p := ⟨w.heap.size + 1 + 1, 0, none⟩) ls).trans s2; have z1 := (hbp.frozen (p := ⟨w.heap.size + 1 + 1, 1, none⟩) ls).trans s3)))
      all_goals
        go_wp2_with fail
        have pq := put2 y0 y1 (.int .i64 (rnd 0 f1.top f1.under + b.air.lo)) (.int .i64 (rnd 1 f2.top f2.under + b.air.hi))
        refine bodyPost_ret (v := .tuple #[.agg #[.int .i64 (rnd 0 f1.top f1.under + b.air.lo), .int .i64 (rnd 1 f2.top f2.under + b.air.hi)], .int .i64 0]) (by simp [results, Try.results11, go_sem, pq.1, pq.2]) rfl ⟨by rw [RR.out]; rfl, ((hbw5.trans (hbp.mono hbw5.size)).setCell (by dsimp only; omega) _).setCell (by dsimp only; omega) _⟩
end Go.Proofs.Ythoefcpeagclbaa
