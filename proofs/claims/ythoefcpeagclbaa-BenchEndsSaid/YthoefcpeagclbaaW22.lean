/- The document's Flow says what the program's says. -/
import Derived.Test.YthoefcpeagclbaaW21
namespace Go.Proofs.Ythoefcpeagclbaa
open Go.RowKit
set_option maxRecDepth 100000 in
set_option maxHeartbeats 4000000 in
theorem refFlow_any (b : Bnch) (x : Ctch) (s : Spn) (oa : Option Addr) (cap : Nat) (w : World) (hn : b.n ≤ 1000000) (hT : MarksAt w oa b.n b.t) :
    Calls Try.prog 14 #[b.val oa cap, x.val, s.val] w fun e w' => e = .returned (.tuple #[(b.flowR x s).1.val, .int .i64 (b.flowR x s).2]) ∧ Below w.heap.size w w' := by
  have HT := Lib.hid hT
  clear hT
  go_enter Try.func14, Try.ntmps14
  go_wp2_with fail
  have HS := Lib.hid ((Box.new (g := w.heap.size + 1 + 1) #[.int .i64 s.lo, .int .i64 s.hi] 24 (two 26 b oa cap x w) (by simp)).old (.cells #[.int .i64 0, .int .i64 0] 24))
  have HR := Lib.hid (Box.new (g := w.heap.size + 1 + 1 + 1) #[.int .i64 0, .int .i64 0] 24 ((two 26 b oa cap x w).alloc (.cells #[.int .i64 s.lo, .int .i64 s.hi] 24)) (by simp))
  have hbw : Below w.heap.size w (((two 26 b oa cap x w).alloc (.cells #[.int .i64 s.lo, .int .i64 s.hi] 24)).alloc (.cells #[.int .i64 0, .int .i64 0] 24)) := ((two_below 26 b oa cap x w).alloc (by simp; omega) _).alloc (by simp; omega) _
  refine (refWater_any b x oa cap _ hn (HT.out.mono hbw)).mono ?_
  rintro e w1 ⟨rfl, hb1⟩
  have HS1 := Lib.hid (HS.out.below hb1)
  have HR1 := Lib.hid (HR.out.below hb1)
  have hbw1 := hbw.trans (hb1.mono hbw.size)
  clear hb1 hbw HS HR
  have hform := waterR_form b x
  obtain ⟨⟨v, e9⟩, hW⟩ : ∃ p, p = b.waterR x := ⟨_, rfl⟩
  rw [← hW] at hform ⊢
  dsimp only at hform ⊢
  have HW := Lib.hid hW
  clear hW
  go_upto_region 2 with fail
  have T8 := (Box.new #[.int .i64 v.lo, .int .i64 v.hi] 24 w1 rfl)
  have HS2 := Lib.hid (HS1.out.old (.cells #[.int .i64 v.lo, .int .i64 v.hi] 24))
  have HR2 := Lib.hid (HR1.out.old (.cells #[.int .i64 v.lo, .int .i64 v.hi] 24))
  have hbw2 := hbw1.alloc hbw1.size (.cells #[.int .i64 v.lo, .int .i64 v.hi] 24)
  have hr1 := HR1.out.lt
  obtain ⟨g, hg⟩ : ∃ N, N = w1.heap.size := ⟨_, rfl⟩
  obtain ⟨w2, hw2⟩ : ∃ X, X = w1.alloc (.cells #[.int .i64 v.lo, .int .i64 v.hi] 24) := ⟨_, rfl⟩
  rw [← hw2] at T8 HS2 HR2 hbw2 ⊢
  rw [← hg] at T8 hr1 ⊢
  clear hw2 hg HS1 HR1 hbw1
  have s0 := HS2.out.cell 0 rfl
  have s1 := HS2.out.cell 1 rfl
  have r0 := HR2.out.cell 0 rfl
  have r1 := HR2.out.cell 1 rfl
  have r2 := HR2.out.frozen 0
  have r3 := HR2.out.frozen 1
  have HT8 := Lib.hid T8
  clear T8
  have HFO := Lib.hid hform
  clear hform
  by_cases he : e9 = 0
  · subst he
    have hb9 : 1 ≤ v.lo ∧ v.lo ≤ 50000010000000 ∧ -50000000000000 ≤ v.hi ∧ v.hi ≤ 50000010000000 := by
      rcases HFO.out with ⟨-, h⟩ | ⟨-, h⟩
      · omega
      · exact h
    go_wp2_with fail
    refine (refSpan_any s _ _ _).mono ?_
    rintro e w3 ⟨rfl, hb3⟩
    have HS3 := Lib.hid (HS2.out.below hb3)
    have HR3 := Lib.hid (HR2.out.below hb3)
    have HT3 := Lib.hid (HT8.out.below hb3)
    have hbw3 := hbw2.trans (hb3.mono hbw2.size)
    clear hb3 HS2 HR2 HT8 hbw2 s0 s1 r0 r1 r2 r3
    have s0 := HS3.out.cell 0 rfl
    have s1 := HS3.out.cell 1 rfl
    have sl := HS3.out.lt
    have r0 := HR3.out.cell 0 rfl
    have r1 := HR3.out.cell 1 rfl
    have r2 := HR3.out.frozen 0
    have r3 := HR3.out.frozen 1
    have rl := HR3.out.lt
    have t0 := HT3.out.cell 0 rfl
    have t1 := HT3.out.cell 1 rfl
    have tl := HT3.out.lt
    by_cases hs : spanB s 1 100000000 = true
    case neg =>
      have hfl : b.flowR x s = (⟨0, 0⟩, 2) := by
        unfold Bnch.flowR
        rw [← HW.out, if_pos rfl, if_neg hs]
      have HF := Lib.hid hfl
      clear hfl
      replace hs : spanB s 1 100000000 = false := by simpa using hs
      rw [hs]
      go_wp2_with fail
      have pq := put2 r0 r1 (.int .i64 0) (.int .i64 0)
      refine bodyPost_ret (v := .tuple #[.agg #[.int .i64 0, .int .i64 0], .int .i64 2]) (by simp [results, Try.results14, go_sem, pq.1, pq.2]) rfl ⟨by rw [HF.out], (by repeat' (first | exact Below.refl _ _ | assumption | apply below_drewN | apply Below.drew | (refine Below.alloc ?_ ?_ _) | (refine Below.setCell ?_ ?_ _) | (simp; done) | (simp; omega) | omega))⟩
    rw [hs]
    have HV := Lib.hid hs
    have hs2 : 1 ≤ s.lo ∧ s.lo ≤ s.hi ∧ s.hi ≤ 100000000 := by simpa [spanB] using hs
    have hfl : b.flowR x s = (⟨rnd 0 (v.lo * 3600) s.hi, rnd 1 (v.hi * 3600) s.lo⟩, 0) := by
      unfold Bnch.flowR
      rw [← HW.out, if_pos rfl, if_pos hs]
    have HF := Lib.hid hfl
    clear hfl hs
    have hw1 : IntKind.i64.wrap (v.lo * 3600) = v.lo * 3600 := IntWalk.i64_in _ (by omega)
    have hw2 : IntKind.i64.wrap (v.hi * 3600) = v.hi * 3600 := IntWalk.i64_in _ (by omega)
    go_wp2_with fail
    go_region_held3 (fun w' => w'.cell? ⟨g, 0, none⟩ = some (.int .i64 v.lo) ∧ w'.cell? ⟨g, 1, none⟩ = some (.int .i64 v.hi) ∧ w'.cell? ⟨w.heap.size + 1 + 1, 0, none⟩ = some (.int .i64 s.lo) ∧ w'.cell? ⟨w.heap.size + 1 + 1, 1, none⟩ = some (.int .i64 s.hi)) ((refine ⟨Two.cell (p := w.heap.size + 1 + 1 + 1) (q := w.heap.size + 1 + 1 + 1) (w := w3) ?_ t0 tl (by omega) (by omega), Two.cell (p := w.heap.size + 1 + 1 + 1) (q := w.heap.size + 1 + 1 + 1) (w := w3) ?_ t1 tl (by omega) (by omega), Two.cell (p := w.heap.size + 1 + 1 + 1) (q := w.heap.size + 1 + 1 + 1) (w := w3) ?_ s0 sl (by omega) (by omega), Two.cell (p := w.heap.size + 1 + 1 + 1) (q := w.heap.size + 1 + 1 + 1) (w := w3) ?_ s1 sl (by omega) (by omega)⟩ <;> (repeat' (first | assumption | exact Two.refl _ _ _ | apply Two.drew | apply Two.setP)))) (first | ((go_at_call 27; refine (down_tu _ _ _ (by omega) (by omega)).mono ?_; rintro e w9 ⟨rfl, hb9'⟩; have hbp : Below w3.heap.size w3 w9 := Below.trans (by repeat' (first | assumption | exact Below.refl _ _ | apply Below.drew)) (hb9'.mono (by first | omega | (simp; done) | (simp; omega))); have hsp := hbp.size; have htp : Two (w.heap.size + 1 + 1 + 1) (w.heap.size + 1 + 1 + 1) w3 w9 := Two.below (Two.refl _ _ _) hbp; have y0 := (hbp.cell (p := ⟨w.heap.size + 1 + 1 + 1, 0, none⟩) rl).trans r0; have y1 := (hbp.cell (p := ⟨w.heap.size + 1 + 1 + 1, 1, none⟩) rl).trans r1; have z0 := (hbp.frozen (p := ⟨w.heap.size + 1 + 1 + 1, 0, none⟩) rl).trans r2; have z1 := (hbp.frozen (p := ⟨w.heap.size + 1 + 1 + 1, 1, none⟩) rl).trans r3)) | ((go_at_call 28; refine (up_tu _ _ _ (by omega) (by omega)).mono ?_; rintro e w9 ⟨rfl, hb9'⟩; have hbp : Below w3.heap.size w3 w9 := Below.trans (by repeat' (first | assumption | exact Below.refl _ _ | apply Below.drew)) (hb9'.mono (by first | omega | (simp; done) | (simp; omega))); have hsp := hbp.size; have htp : Two (w.heap.size + 1 + 1 + 1) (w.heap.size + 1 + 1 + 1) w3 w9 := Two.below (Two.refl _ _ _) hbp; have y0 := (hbp.cell (p := ⟨w.heap.size + 1 + 1 + 1, 0, none⟩) rl).trans r0; have y1 := (hbp.cell (p := ⟨w.heap.size + 1 + 1 + 1, 1, none⟩) rl).trans r1; have z0 := (hbp.frozen (p := ⟨w.heap.size + 1 + 1 + 1, 0, none⟩) rl).trans r2; have z1 := (hbp.frozen (p := ⟨w.heap.size + 1 + 1 + 1, 1, none⟩) rl).trans r3)))
    all_goals
      go_wp2_with fail
      have pq := put2 y0 y1 (.int .i64 (rnd 0 (v.lo * 3600) s.hi)) (.int .i64 (rnd 1 (v.hi * 3600) s.lo))
      refine bodyPost_ret (v := .tuple #[.agg #[.int .i64 (rnd 0 (v.lo * 3600) s.hi), .int .i64 (rnd 1 (v.hi * 3600) s.lo)], .int .i64 0]) (by simp [results, Try.results14, go_sem, pq.1, pq.2]) rfl ⟨by rw [HF.out], ((hbw3.trans (hbp.mono hbw3.size)).setCell (by dsimp only; omega) _).setCell (by dsimp only; omega) _⟩
  · have hfl : b.flowR x s = (⟨0, 0⟩, e9) := by
      unfold Bnch.flowR
      rw [← HW.out]
      exact if_neg he
    have HF := Lib.hid hfl
    clear hfl
    have hne : (e9 != 0) = true := by simpa using he
    go_wp2_with fail
    have pq := put2 r0 r1 (.int .i64 0) (.int .i64 0)
    refine bodyPost_ret (v := .tuple #[.agg #[.int .i64 0, .int .i64 0], .int .i64 e9]) (by simp [results, Try.results14, go_sem, pq.1, pq.2]) rfl ⟨by rw [HF.out], (by repeat' (first | exact Below.refl _ _ | assumption | apply below_drewN | apply Below.drew | (refine Below.alloc ?_ ?_ _) | (refine Below.setCell ?_ ?_ _) | (simp; done) | (simp; omega) | omega))⟩
end Go.Proofs.Ythoefcpeagclbaa
