/- The document's water of a scale. The document's water, of both kinds of benches. -/
import Derived.Test.YthoefcpeagclbaaW16
import Derived.Test.YthoefcpeagclbaaW17
namespace Go.Proofs.Ythoefcpeagclbaa
open Go.RowKit
theorem densitiesF_any (fl : Bool) (b : Bnch) (s : Spn) (oa : Option Addr) (cap : Nat) (w : World) (hV : Tab b.n b.t) (hT : MarksAt w oa b.n b.t) (h1 : (b.t 0).at_ ≤ s.lo) (h2 : s.lo ≤ s.hi) (h3 : s.hi ≤ (b.t (b.n - 1)).at_) :
    Calls Try.prog 56 #[.agg #[.bool fl, .slice oa b.n cap, .int .i64 b.off, .int .i64 b.buoy.lo, .int .i64 b.buoy.hi, .int .i64 b.air.lo, .int .i64 b.air.hi], s.val] w fun e w' => e = .returned (.tuple #[(bestN Frac.lt (densF b.n b.t s) (tabAt b.n b.t s.lo) (densL b.n b.t s).length).val, (bestN (fun a b => Frac.lt b a) (densF b.n b.t s) (tabAt b.n b.t s.lo) (densL b.n b.t s).length).val]) ∧ Below w.heap.size w w' := densities_any ⟨fl, b.off, b.buoy, b.air, b.n, b.t⟩ s oa cap w hV hT h1 h2 h3
set_option maxRecDepth 100000 in
set_option maxHeartbeats 8000000 in
theorem refScale_any (b : Bnch) (x : Ctch) (oa : Option Addr) (cap : Nat) (w : World) (hv : b.valid = true) (hw : b.weighs = true) (hx : b.scaleOk x = true) (hT : MarksAt w oa b.n b.t) :
    Calls Try.prog 36 #[b.val oa cap, x.val] w fun e w' => e = .returned (.tuple #[(b.scaleW x).1.val, (b.scaleW x).2.1.val, .bool ((b.scaleW x).2.2 && decide ((b.scaleW x).1.under ≤ (b.scaleW x).1.top))]) ∧ Below w.heap.size w w' := by
  have hV := valid_tab hv
  obtain ⟨-, hn1, hn2, ho, hbu, hai⟩ := valid_all hv
  simp only [Bnch.scaleOk, spanB, Bool.and_eq_true, decide_eq_true_eq] at hx
  obtain ⟨⟨hx1, hx2⟩, hx3⟩ := hx
  have HT := Lib.hid hT
  have HV := Lib.hid hV
  have HW := Lib.hid hw
  clear hT hV hv hw
  go_enter Try.func36, Try.ntmps36
  go_upto_region 1 with fail
  have HB := Lib.hid (four_bench 26 50 b oa cap x w)
  have HC := Lib.hid (four_catch 26 50 b oa cap x w)
  have HL := Lib.hid (four_low 26 50 b oa cap x w)
  have HH := Lib.hid (four_high 26 50 b oa cap x w)
  have hbw := four_below 26 50 b oa cap x w
  obtain ⟨W, hW⟩ : ∃ X, X = four 26 50 b oa cap x w := ⟨_, rfl⟩
  rw [← hW] at HB HC HL HH hbw
  unfold four two at hW
  rw [← hW]
  clear hW
  obtain ⟨b0, b1, b2, b3, b4, b5, b6, b7⟩ := BB.cells (b := b) HB.out
  obtain ⟨c0, c1, c2, c3, c4, c5, c6⟩ := CB.cells (x := x) HC.out
  rw [HW.out] at b0
  go_wp2_with fail
  refine (densitiesF_any true b x.warm oa cap _ HV.out (HT.out.mono hbw) hx3.1 hx3.2.1 hx3.2.2).mono ?_
  rintro e w1 ⟨rfl, hb1⟩
  rw [← thin_eq b x, ← thick_eq b x]
  have HB1 := Lib.hid (HB.out.below hb1)
  have HC1 := Lib.hid (HC.out.below hb1)
  have HL1 := Lib.hid (HL.out.below hb1)
  have HH1 := Lib.hid (HH.out.below hb1)
  have hbw1 := hbw.trans (hb1.mono hbw.size)
  clear hb1 hbw HB HC HL HH b0 b1 b2 b3 b4 b5 b6 b7 c0 c1 c2 c3 c4 c5 c6
  go_upto_region 6 with fail
  have hh1 := HH1.out.lt
  have T9 := Lib.hid ((Box.new #[.int .i64 (b.thin x).top, .int .i64 (b.thin x).under] 50 w1 rfl).old (.cells #[.int .i64 (b.thick x).top, .int .i64 (b.thick x).under] 50))
  have T10 : Hid (Box (w1.heap.size + 1) #[.int .i64 (b.thick x).top, .int .i64 (b.thick x).under] 50 ((w1.alloc (.cells #[.int .i64 (b.thin x).top, .int .i64 (b.thin x).under] 50)).alloc (.cells #[.int .i64 (b.thick x).top, .int .i64 (b.thick x).under] 50))) := Lib.hid (Box.new _ 50 _ (by simp))
  have hb2 : Below w1.heap.size w1 ((w1.alloc (.cells #[.int .i64 (b.thin x).top, .int .i64 (b.thin x).under] 50)).alloc (.cells #[.int .i64 (b.thick x).top, .int .i64 (b.thick x).under] 50)) := (below_alloc1 w1 _).alloc (by simp) _
  have HB2 := Lib.hid (HB1.out.below hb2)
  have HC2 := Lib.hid (HC1.out.below hb2)
  have HL2 := Lib.hid (HL1.out.below hb2)
  have HH2 := Lib.hid (HH1.out.below hb2)
  have hbw2 := hbw1.trans (hb2.mono hbw1.size)
  obtain ⟨N, hN⟩ : ∃ N, N = w1.heap.size := ⟨_, rfl⟩
  obtain ⟨w2, hw2⟩ : ∃ X, X = (w1.alloc (.cells #[.int .i64 (b.thin x).top, .int .i64 (b.thin x).under] 50)).alloc (.cells #[.int .i64 (b.thick x).top, .int .i64 (b.thick x).under] 50) := ⟨_, rfl⟩
  rw [← hw2] at T9 T10 HB2 HC2 HL2 HH2 hbw2 ⊢
  rw [← hN] at T9 T10 hh1 ⊢
  clear hw2 hN hb2 HB1 HC1 HL1 HH1 hbw1
  obtain ⟨b0, b1, b2, b3, b4, b5, b6, b7⟩ := BB.cells (b := b) HB2.out
  obtain ⟨c0, c1, c2, c3, c4, c5, c6⟩ := CB.cells (x := x) HC2.out
  have l0 := HL2.out.cell 0 rfl
  have l1 := HL2.out.cell 1 rfl
  have k0 := HH2.out.cell 0 rfl
  have k1 := HH2.out.cell 1 rfl
  have l2 := HL2.out.frozen 0
  have l3 := HL2.out.frozen 1
  have k2 := HH2.out.frozen 0
  have k3 := HH2.out.frozen 1
  have t0 := T9.out.cell 0 rfl
  have t1 := T9.out.cell 1 rfl
  have t2 := T10.out.cell 0 rfl
  have t3 := T10.out.cell 1 rfl
  have LI2 := Lib.hid (show b.light x = x.fin.lo - x.beg.hi - 2 * b.off from rfl)
  have HE2 := Lib.hid (show b.heavy x = x.fin.hi - x.beg.lo + 2 * b.off from rfl)
  go_upto_region 8 with fail
  rw [← LI2.out, ← HE2.out]
  by_cases hli : b.light x ≤ 0
  · have HLI := Lib.hid hli
    go_wp2_with fail
    have pq := put4 HL2.out HH2.out (by omega) (.int .i64 0) (.int .i64 0) (.int .i64 0) (.int .i64 0)
    refine bodyPost_ret (v := .tuple #[.agg #[.int .i64 0, .int .i64 0], .agg #[.int .i64 0, .int .i64 0], .bool false]) (by simp [results, Try.results36, go_sem, pq.1, pq.2.1, pq.2.2.1, pq.2.2.2]) rfl ⟨by simp [Bnch.scaleW, HLI.out], (by repeat' (first | exact Below.refl _ _ | assumption | apply below_drewN | apply Below.drew | (refine Below.alloc ?_ ?_ _) | (refine Below.setCell ?_ ?_ _) | (simp; done) | (simp; omega) | omega))⟩
  · have HLI := Lib.hid hli
    have d0 := at_dense HV.out hx3.1 (Int.le_trans hx3.2.1 hx3.2.2)
    have da := ext_dense HV.out hx3.1 hx3.2.1 hx3.2.2
    have DT : Dense (b.thin x) := bestN_dense (better := Frac.lt) (t := extF b.n b.t x.warm) d0 da
    have DK : Dense (b.thick x) := bestN_dense (better := fun a b => Frac.lt b a) (t := extF b.n b.t x.warm) d0 da
    have e1 := LI2.out
    have e2 := HE2.out
    have O1 := (scale_ok (g := b.light x) (y := b.buoy.lo) DK (by omega) (by omega))
    have m1 := mulb (a := b.light x) (b := 1000000 + b.buoy.lo) (x := 10000000) (y := 1010000) (by omega) (by omega) (by omega) (by omega)
    have m2 := mulb (a := b.light x * (1000000 + b.buoy.lo)) (b := (b.thick x).under) (x := 10000000 * 1010000) (y := 10000) m1.1 m1.2 (by have := DK.u0; omega) DK.u1
    have m3 := mulb (a := b.heavy x) (b := 1000000 + b.buoy.hi) (x := 30000000) (y := 1010000) (by omega) (by omega) (by omega) (by omega)
    have m4 := mulb (a := b.heavy x * (1000000 + b.buoy.hi)) (b := (b.thin x).under) (x := 30000000 * 1010000) (y := 10000) m3.1 m3.2 (by have := DT.u0; omega) DT.u1
    have O2 := O1.u1
    have O3 := O1.u0
    have O4 := O1.t2
    dsimp only at O2 O3 O4
    clear e1 e2 d0 da DT DK O1
    have n1 := T9.out.lt
    have n2 := T10.out.lt
    have n3 : ¬ N = w2.heap.size := by omega
    have n4 : ¬ N + 1 = w2.heap.size := by omega
    have n5 : ¬ w.heap.size = w2.heap.size := by omega
    have hl1 := HL2.out.lt
    have hk1 := HH2.out.lt
    go_upto_region 12 with fail
    have T13 := Lib.hid ((Box.new #[.int .i64 (b.light x * (1000000 + b.buoy.lo) * (b.thick x).under), .int .i64 (b.thick x).top] 50 w2 rfl).old (.cells #[.int .i64 (b.heavy x * (1000000 + b.buoy.hi) * (b.thin x).under), .int .i64 (b.thin x).top] 50))
    have T14 : Hid (Box (w2.heap.size + 1) #[.int .i64 (b.heavy x * (1000000 + b.buoy.hi) * (b.thin x).under), .int .i64 (b.thin x).top] 50 ((w2.alloc (.cells #[.int .i64 (b.light x * (1000000 + b.buoy.lo) * (b.thick x).under), .int .i64 (b.thick x).top] 50)).alloc (.cells #[.int .i64 (b.heavy x * (1000000 + b.buoy.hi) * (b.thin x).under), .int .i64 (b.thin x).top] 50))) := Lib.hid (Box.new _ 50 _ (by simp))
    have hb3 : Below w2.heap.size w2 ((w2.alloc (.cells #[.int .i64 (b.light x * (1000000 + b.buoy.lo) * (b.thick x).under), .int .i64 (b.thick x).top] 50)).alloc (.cells #[.int .i64 (b.heavy x * (1000000 + b.buoy.hi) * (b.thin x).under), .int .i64 (b.thin x).top] 50)) := (below_alloc1 w2 _).alloc (by simp) _
    have HL3 := Lib.hid (HL2.out.below hb3)
    have HH3 := Lib.hid (HH2.out.below hb3)
    have hbw3 := hbw2.trans (hb3.mono hbw2.size)
    obtain ⟨g, hg⟩ : ∃ N, N = w2.heap.size := ⟨_, rfl⟩
    obtain ⟨g', hg'⟩ : ∃ N, N = w2.heap.size + 1 := ⟨_, rfl⟩
    obtain ⟨W3, hW3⟩ : ∃ X, X = (w2.alloc (.cells #[.int .i64 (b.light x * (1000000 + b.buoy.lo) * (b.thick x).under), .int .i64 (b.thick x).top] 50)).alloc (.cells #[.int .i64 (b.heavy x * (1000000 + b.buoy.hi) * (b.thin x).under), .int .i64 (b.thin x).top] 50) := ⟨_, rfl⟩
    rw [← hW3] at T13 T14 HL3 HH3 hbw3 ⊢
    rw [← hg'] at T14 ⊢
    rw [← hg] at T13 hl1 hk1 ⊢
    have hgg : w.heap.size + 1 + 1 + 1 < g' := by omega
    clear hW3 hg hg' hb3 HB2 HC2 HL2 HH2 hbw2 b0 b1 b2 b3 b4 b5 b6 b7 c0 c1 c2 c3 c4 c5 c6 l0 l1 l2 l3 k0 k1 k2 k3 t0 t1 t2 t3 T9 T10 m1 m2 m3 m4 n1 n2 n3 n4 n5
    obtain ⟨f1, hf1⟩ : ∃ f : Frac, f = ⟨b.light x * (1000000 + b.buoy.lo) * (b.thick x).under, (b.thick x).top⟩ := ⟨_, rfl⟩
    obtain ⟨f2, hf2⟩ : ∃ f : Frac, f = ⟨b.heavy x * (1000000 + b.buoy.hi) * (b.thin x).under, (b.thin x).top⟩ := ⟨_, rfl⟩
    have F1 := Lib.hid hf1
    have F2 := Lib.hid hf2
    have g0 : W3.cell? ⟨g, 0, none⟩ = some (.int .i64 f1.top) := by rw [hf1]; exact T13.out.cell 0 rfl
    have g1 : W3.cell? ⟨g, 1, none⟩ = some (.int .i64 f1.under) := by rw [hf1]; exact T13.out.cell 1 rfl
    have g2 : W3.cell? ⟨g', 0, none⟩ = some (.int .i64 f2.top) := by rw [hf2]; exact T14.out.cell 0 rfl
    have g3 : W3.cell? ⟨g', 1, none⟩ = some (.int .i64 f2.under) := by rw [hf2]; exact T14.out.cell 1 rfl
    have O2 : f1.under ≤ 100000000000 := by rw [hf1]; exact O2
    have O3 : 0 < f1.under := by rw [hf1]; exact O3
    have O4 : -4000000000000000000 ≤ f1.top ∧ f1.top ≤ 4000000000000000000 := by rw [hf1]; exact O4
    clear hf1 hf2
    have lg := T13.out.lt
    have lh := T14.out.lt
    have l0 := HL3.out.cell 0 rfl
    have l1 := HL3.out.cell 1 rfl
    have k0 := HH3.out.cell 0 rfl
    have k1 := HH3.out.cell 1 rfl
    have l2 := HL3.out.frozen 0
    have l3 := HL3.out.frozen 1
    have k2 := HH3.out.frozen 0
    have k3 := HH3.out.frozen 1
    have ls := HL3.out.lt
    have ks := HH3.out.lt
    go_wp2_with fail
    go_region_held3 (fun w' => w'.cell? ⟨g, 0, none⟩ = some (.int .i64 f1.top) ∧ w'.cell? ⟨g, 1, none⟩ = some (.int .i64 f1.under) ∧ w'.cell? ⟨g', 0, none⟩ = some (.int .i64 f2.top) ∧ w'.cell? ⟨g', 1, none⟩ = some (.int .i64 f2.under)) ((refine ⟨Two.cell (p := w.heap.size + 1 + 1) (q := w.heap.size + 1 + 1 + 1) (w := W3) ?_ g0 lg (by omega) (by omega), Two.cell (p := w.heap.size + 1 + 1) (q := w.heap.size + 1 + 1 + 1) (w := W3) ?_ g1 lg (by omega) (by omega), Two.cell (p := w.heap.size + 1 + 1) (q := w.heap.size + 1 + 1 + 1) (w := W3) ?_ g2 lh (by omega) (by omega), Two.cell (p := w.heap.size + 1 + 1) (q := w.heap.size + 1 + 1 + 1) (w := W3) ?_ g3 lh (by omega) (by omega)⟩ <;> (repeat' (first | assumption | exact Two.refl _ _ _ | apply Two.drew | apply Two.setP | apply Two.setQ)))) (first | ((go_at_call 30; refine (lessOne_any _ _ _ (by omega) (by omega)).mono ?_; rintro e w9 ⟨rfl, hb9⟩; have hbp : Below W3.heap.size W3 w9 := Below.trans (by repeat' (first | assumption | exact Below.refl _ _ | apply Below.drew)) (hb9.mono (by first | omega | (simp; done) | (simp; omega))); have hsp := hbp.size; have htp : Two (w.heap.size + 1 + 1) (w.heap.size + 1 + 1 + 1) W3 w9 := Two.below (Two.refl _ _ _) hbp; have y00 := (hbp.cell (p := ⟨w.heap.size + 1 + 1, 0, none⟩) ls).trans l0; have y01 := (hbp.cell (p := ⟨w.heap.size + 1 + 1, 1, none⟩) ls).trans l1; have z00 := (hbp.frozen (p := ⟨w.heap.size + 1 + 1, 0, none⟩) ls).trans l2; have z01 := (hbp.frozen (p := ⟨w.heap.size + 1 + 1, 1, none⟩) ls).trans l3; have y10 := (hbp.cell (p := ⟨w.heap.size + 1 + 1 + 1, 0, none⟩) ks).trans k0; have y11 := (hbp.cell (p := ⟨w.heap.size + 1 + 1 + 1, 1, none⟩) ks).trans k1; have z10 := (hbp.frozen (p := ⟨w.heap.size + 1 + 1 + 1, 0, none⟩) ks).trans k2; have z11 := (hbp.frozen (p := ⟨w.heap.size + 1 + 1 + 1, 1, none⟩) ks).trans k3)))
    all_goals
      go_wp2_with fail
      have pq := put4 (HL3.out.below hbp) (HH3.out.below hbp) (by omega) (.int .i64 f1.top) (.int .i64 f1.under) (.int .i64 f2.top) (.int .i64 f2.under)
      have e9 : b.scaleW x = (f1, f2, true) := by rw [F1.out, F2.out]; unfold Bnch.scaleW; rw [if_neg (show ¬ b.light x ≤ 0 by have := HLI.out; omega)]
      have e8 : decide (f1.under ≤ f1.top) = !decide (f1.top < f1.under) := by rw [Bool.eq_iff_iff]; simp
      refine bodyPost_ret (v := .tuple #[.agg #[.int .i64 f1.top, .int .i64 f1.under], .agg #[.int .i64 f2.top, .int .i64 f2.under], .bool (!decide (f1.top < f1.under))]) (by simp [results, Try.results36, go_sem, pq.1, pq.2.1, pq.2.2.1, pq.2.2.2]) rfl ⟨by rw [e9]; simp [e8], ((((hbw3.trans (hbp.mono hbw3.size)).setCell (by dsimp only; omega) _).setCell (by dsimp only; omega) _).setCell (by dsimp only; omega) _).setCell (by dsimp only; omega) _⟩
end Go.Proofs.Ythoefcpeagclbaa
namespace Go.Proofs.Ythoefcpeagclbaa
open Go.RowKit
theorem refWaterF_any (b : Bnch) (x : Ctch) (oa : Option Addr) (cap : Nat) (w : World) (hv : b.valid = true) (hx : b.rightB x = true) (hT : MarksAt w oa b.n b.t) :
    Calls Try.prog 36 #[b.val oa cap, x.val] w fun e w' => e = .returned (.tuple #[(b.waterF x).1.val, (b.waterF x).2.1.val, .bool ((b.waterF x).2.2 && decide ((b.waterF x).1.under ≤ (b.waterF x).1.top))]) ∧ Below w.heap.size w w' := by
  unfold Bnch.rightB at hx
  unfold Bnch.waterF
  rcases hw : b.weighs
  · rw [hw] at hx
    exact refTank_any b x oa cap w hv hw hx hT
  · rw [hw] at hx
    exact refScale_any b x oa cap w hv hw hx hT
end Go.Proofs.Ythoefcpeagclbaa
