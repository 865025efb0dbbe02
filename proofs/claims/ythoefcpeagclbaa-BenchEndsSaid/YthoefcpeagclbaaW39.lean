/- awake returns true. -/
import Derived.Test.YthoefcpeagclbaaW38
namespace Go.Proofs.Ythoefcpeagclbaa
open Go.RowKit
/-- a law's ending: it returned true, and wrote only into what is new -/
def TrueEnd (w : World) (e : Ending) (w' : World) : Prop := e = .returned (.bool true) ∧ Below w.heap.size w w'
/-- the example in memory -/
structure Aw (tb rb n : Nat) (w : World) : Prop where
  marks : MarksAt w (some ⟨tb, 0, none⟩) 3 exT
  row : SpnsAt w (some ⟨rb, 0, none⟩) 2 exR
  B : Box n #[.bool false, .slice (some ⟨tb, 0, none⟩) 3 3, .int .i64 10, .int .i64 0, .int .i64 0, .int .i64 0, .int .i64 20] 26 w
  X : Box (n + 1) #[.int .i64 10, .int .i64 10, .int .i64 110, .int .i64 111, .int .i64 0, .int .i64 0] 28 w
theorem Aw.below {tb rb n : Nat} {w w' : World} (h : Aw tb rb n w) (hb : Below w.heap.size w w') : Aw tb rb n w' := ⟨h.marks.mono hb, h.row.mono hb, h.B.below hb, h.X.below hb⟩
theorem Aw.cells {tb rb n : Nat} {w : World} (h : Aw tb rb n w) : (w.cell? ⟨n, 0, none⟩ = some (.bool false) ∧ w.cell? ⟨n, 1, none⟩ = some (.slice (some ⟨tb, 0, none⟩) 3 3) ∧ w.cell? ⟨n, 2, none⟩ = some (.int .i64 10) ∧ w.cell? ⟨n, 3, none⟩ = some (.int .i64 0) ∧ w.cell? ⟨n, 4, none⟩ = some (.int .i64 0) ∧ w.cell? ⟨n, 5, none⟩ = some (.int .i64 0) ∧ w.cell? ⟨n, 6, none⟩ = some (.int .i64 20)) ∧
    (w.cell? ⟨n + 1, 0, none⟩ = some (.int .i64 10) ∧ w.cell? ⟨n + 1, 1, none⟩ = some (.int .i64 10) ∧ w.cell? ⟨n + 1, 2, none⟩ = some (.int .i64 110) ∧ w.cell? ⟨n + 1, 3, none⟩ = some (.int .i64 111) ∧ w.cell? ⟨n + 1, 4, none⟩ = some (.int .i64 0) ∧ w.cell? ⟨n + 1, 5, none⟩ = some (.int .i64 0)) :=
  ⟨⟨h.B.cell 0 rfl, h.B.cell 1 rfl, h.B.cell 2 rfl, h.B.cell 3 rfl, h.B.cell 4 rfl, h.B.cell 5 rfl, h.B.cell 6 rfl⟩, h.X.cell 0 rfl, h.X.cell 1 rfl, h.X.cell 2 rfl, h.X.cell 3 rfl, h.X.cell 4 rfl, h.X.cell 5 rfl⟩
set_option maxRecDepth 100000 in
set_option maxHeartbeats 8000000 in
theorem awake_any (w : World) : Calls Try.prog 10 #[] w (TrueEnd w) := by
  go_enter Try.func10, Try.ntmps10
  go_wp2_with fail
  refine (sample_any _).mono ?_
  rintro e w1 ⟨tb, rb, rfl, hb1, n1, n2, hT, hR⟩
  have hA : Aw tb rb w1.heap.size (two 26 exB (some ⟨tb, 0, none⟩) 3 exX w1) := ⟨hT.mono (two_below ..), hR.mono (two_below ..), two_bench 26 exB (some ⟨tb, 0, none⟩) 3 exX w1, two_catch 26 exB (some ⟨tb, 0, none⟩) 3 exX w1⟩
  have hbw : Below w.heap.size w (two 26 exB (some ⟨tb, 0, none⟩) 3 exX w1) := hb1.trans ((two_below 26 exB (some ⟨tb, 0, none⟩) 3 exX w1).mono hb1.size)
  have hl : w.heap.size ≤ w1.heap.size := hb1.size
  clear hT hR hb1 n1 n2
  go_upto_region 2 with fail
  obtain ⟨n, hn⟩ : ∃ n, n = w1.heap.size := ⟨_, rfl⟩
  obtain ⟨W1, hW⟩ : ∃ X, X = two 26 exB (some ⟨tb, 0, none⟩) 3 exX w1 := ⟨_, rfl⟩
  rw [← hW] at hA hbw
  rw [← hn] at hA hl ⊢
  have hW' := hW
  simp only [two] at hW'
  rw [← hW']
  clear hW hW' hn
  have HA := Lib.hid hA
  clear hA
  obtain ⟨⟨b0, b1, b2, b3, b4, b5, b6⟩, c0, c1, c2, c3, c4, c5⟩ := HA.out.cells
  go_wp2_with fail
  refine (Water_any exB exX (some ⟨tb, 0, none⟩) 3 _ (by decide) (by decide) HA.out.marks).mono ?_
  rintro e w2 ⟨rfl, hb2⟩
  rw [ex_water]
  have HA2 := Lib.hid ((HA.out.below hb2).below (below_alloc1 w2 (.cells #[.int .i64 10180, .int .i64 10360] 24)))
  have hbw2 := (hbw.trans (hb2.mono hbw.size)).alloc (Nat.le_trans hbw.size hb2.size) (.cells #[.int .i64 10180, .int .i64 10360] 24)
  have T4 := Box.new (g := w2.heap.size) #[.int .i64 10180, .int .i64 10360] 24 w2 rfl
  clear b0 b1 b2 b3 b4 b5 b6 c0 c1 c2 c3 c4 c5
  clear HA hbw hb2
  go_upto_region 3 with fail
  obtain ⟨g4, hg4⟩ : ∃ n, n = w2.heap.size := ⟨_, rfl⟩
  obtain ⟨W2, hW⟩ : ∃ X, X = w2.alloc (.cells #[.int .i64 10180, .int .i64 10360] 24) := ⟨_, rfl⟩
  rw [← hW] at HA2 hbw2 T4 ⊢
  rw [← hg4] at T4 ⊢
  clear hW hg4
  have K4 := Lib.hid T4
  clear T4
  go_wp2_with fail
  have K4a := Lib.hid (K4.out.old (.cells #[.int .i64 100, .int .i64 999700, .int .i64 200, .int .i64 998200] 59))
  have K5 := Box.new (g := W2.heap.size) #[.int .i64 100, .int .i64 999700, .int .i64 200, .int .i64 998200] 59 W2 rfl
  have HA3 := Lib.hid (HA2.out.below (below_alloc1 W2 (.cells #[.int .i64 100, .int .i64 999700, .int .i64 200, .int .i64 998200] 59)))
  have hbw3 := hbw2.alloc hbw2.size (.cells #[.int .i64 100, .int .i64 999700, .int .i64 200, .int .i64 998200] 59)
  obtain ⟨g5, hg5⟩ : ∃ n, n = W2.heap.size := ⟨_, rfl⟩
  obtain ⟨W3, hW⟩ : ∃ X, X = W2.alloc (.cells #[.int .i64 100, .int .i64 999700, .int .i64 200, .int .i64 998200] 59) := ⟨_, rfl⟩
  rw [← hW] at K4a K5 HA3 hbw3 ⊢
  rw [← hg5] at K5 ⊢
  clear hW hg5 K4 HA2 hbw2
  refine (span_any _ _ _).mono ?_
  rintro e w3 ⟨rfl, hb3⟩
  have hbE := hb3.alloc hb3.size (.cells #[.bool true, .slice (some ⟨g5, 0, none⟩) 2 2, .int .i64 5, .int .i64 1050, .int .i64 1100, .int .i64 0, .int .i64 0] 26)
  have T6 := Box.new (g := w3.heap.size) #[.bool true, .slice (some ⟨g5, 0, none⟩) 2 2, .int .i64 5, .int .i64 1050, .int .i64 1100, .int .i64 0, .int .i64 0] 26 w3 rfl
  have K4 := Lib.hid (K4a.out.below hbE)
  have L5 := Lib.hid (K5.below hbE)
  have HA := Lib.hid (HA3.out.below hbE)
  have hbw := hbw3.trans (hbE.mono hbw3.size)
  clear hb3 hbE hbw3 K4a K5 HA3
  go_wp2_with fail
  obtain ⟨g6, hg6⟩ : ∃ n, n = w3.heap.size := ⟨_, rfl⟩
  obtain ⟨W4, hW⟩ : ∃ X, X = w3.alloc (.cells #[.bool true, .slice (some ⟨g5, 0, none⟩) 2 2, .int .i64 5, .int .i64 1050, .int .i64 1100, .int .i64 0, .int .i64 0] 26) := ⟨_, rfl⟩
  rw [← hW] at T6 K4 L5 HA hbw ⊢
  rw [← hg6] at T6 ⊢
  clear hW hg6
  have K6 := Lib.hid T6
  clear T6
  have hMU : MarksAt W4 (some ⟨g5, 0, none⟩) 2 exU := fun i hi => by
    have : i = 0 ∨ i = 1 := by omega
    rcases this with rfl | rfl
    · exact ⟨_, _, rfl, L5.out.lt, L5.out.cell 0 rfl, L5.out.cell 1 rfl⟩
    · exact ⟨_, _, rfl, L5.out.lt, L5.out.cell 2 rfl, L5.out.cell 3 rfl⟩
  have HMU := Lib.hid hMU
  clear hMU
  have hCC : ∀ A B : World, Below W4.heap.size W4 A → Below A.heap.size A B → Below W4.heap.size W4 B := fun A B h1 h2 => h1.trans (h2.mono h1.size)
  have hC0 : Below W4.heap.size W4 W4.drew := (Below.refl _ _).drew
  refine wp_region_garb (Below W4.heap.size W4) (by kernel_rfl) ?_
  (refine wpAnyG_take (i := 0) hCC hC0 rfl (by kernel_rfl) (by kernel_rfl) (by kernel_rfl) (fun _ _ _ _ h => h) (by rfl) ?_; apply Exists.intro; refine ⟨fun w1 h1 K hK => ?_, ?_⟩; · (have f := fun W : Aft w1 => K6.out.below (hCC _ _ h1 W.below); have f0 : ∀ W : Aft w1, W.val.cell? ⟨g6, 0, none⟩ = some (.bool true) := fun W => (f W).cell 0 rfl; have f1 : ∀ W : Aft w1, W.val.cell? ⟨g6, 1, none⟩ = some (.slice (some ⟨g5, 0, none⟩) 2 2) := fun W => (f W).cell 1 rfl; have f2 : ∀ W : Aft w1, W.val.cell? ⟨g6, 2, none⟩ = some (.int .i64 5) := fun W => (f W).cell 2 rfl; have f3 : ∀ W : Aft w1, W.val.cell? ⟨g6, 3, none⟩ = some (.int .i64 1050) := fun W => (f W).cell 3 rfl; have f4 : ∀ W : Aft w1, W.val.cell? ⟨g6, 4, none⟩ = some (.int .i64 1100) := fun W => (f W).cell 4 rfl; have f5 : ∀ W : Aft w1, W.val.cell? ⟨g6, 5, none⟩ = some (.int .i64 0) := fun W => (f W).cell 5 rfl; have f6 : ∀ W : Aft w1, W.val.cell? ⟨g6, 6, none⟩ = some (.int .i64 0) := fun W => (f W).cell 6 rfl; go_big_quiet_op; first | exact hK | fail))
  (refine wpAnyG_take (i := 1) hCC hC0 rfl (by kernel_rfl) (by kernel_rfl) (by kernel_rfl) (fun _ _ _ _ h => h) (by rfl) ?_; apply Exists.intro; refine ⟨fun w1 h1 K hK => ?_, ?_⟩; · ( go_big_quiet_op; first | exact hK | exact ⟨_, fun W => aft_call (span_any _ _ _), hK⟩))
  (refine wpAnyG_take (i := 2) hCC hC0 rfl (by kernel_rfl) (by kernel_rfl) (by kernel_rfl) (fun _ _ _ _ h => h) (by rfl) ?_; apply Exists.intro; refine ⟨fun w1 h1 K hK => ?_, ?_⟩; · ( go_big_quiet_op; first | exact hK | exact ⟨_, fun W => aft_call (span_any _ _ _), hK⟩))
  (refine wpAnyG_take (i := 3) hCC hC0 rfl (by kernel_rfl) (by kernel_rfl) (by kernel_rfl) (fun _ _ _ _ h => h) (by rfl) ?_; apply Exists.intro; refine ⟨fun w1 h1 K hK => ?_, ?_⟩; · ( go_big_quiet_op; first | exact hK | exact ⟨_, fun W => aft_call (span_any _ _ _), hK⟩))
  (refine wpAnyG_take (i := 4) hCC hC0 rfl (by kernel_rfl) (by kernel_rfl) (by kernel_rfl) (fun _ _ _ _ h => h) (by rfl) ?_; apply Exists.intro; refine ⟨fun w1 h1 K hK => ?_, ?_⟩; · ( go_big_quiet_op; first | exact hK | fail))
  (refine wpAnyG_take (i := 5) hCC hC0 rfl (by kernel_rfl) (by kernel_rfl) (by kernel_rfl) (fun _ _ _ _ h => h) (by rfl) ?_; apply Exists.intro; refine ⟨fun w1 h1 K hK => ?_, ?_⟩; · ( go_big_quiet_op; first | exact hK | exact ⟨_, fun W => aft_call (Water_any exS exY (some ⟨g5, 0, none⟩) 2 _ (by decide) (by decide) (HMU.out.mono (hCC _ _ h1 W.below))), hK⟩))
  rw [ex_water2]
  (refine wpAnyG_take (i := 6) hCC hC0 rfl (by kernel_rfl) (by kernel_rfl) (by kernel_rfl) (fun _ _ _ _ h => h) (by rfl) ?_; apply Exists.intro; refine ⟨fun w1 h1 K hK => ?_, ?_⟩; · ( go_big_quiet_op; first | exact hK | fail))
  (refine wpAnyG_take (i := 7) hCC hC0 rfl (by kernel_rfl) (by kernel_rfl) (by kernel_rfl) (fun _ _ _ _ h => h) (by rfl) ?_; apply Exists.intro; refine ⟨fun w1 h1 K hK => ?_, ?_⟩; · ( go_big_quiet_op; first | exact hK | fail))
  (refine wpAnyG_take (i := 8) hCC hC0 rfl (by kernel_rfl) (by kernel_rfl) (by kernel_rfl) (fun _ _ _ _ h => h) (by rfl) ?_; apply Exists.intro; refine ⟨fun w1 h1 K hK => ?_, ?_⟩; · ( go_big_quiet_op; first | exact hK | fail))
  (refine wpAnyG_one (i := 9) (by kernel_rfl) rfl (by rfl) (fun wa hwa K hK => ?_)); go_simp; refine hK _ _ ((hCC _ _ hC0 hwa).alloc (by have := hC0.size; have := hwa.size; omega) _) ?_; clear hK K
  have s9 := Box.new (g := wa.heap.size) #[.int .i64 0, .int .i64 0] 24 wa rfl
  have hC1 := (hCC _ _ hC0 hwa).alloc (by have := hC0.size; have := hwa.size; omega) (.cells #[.int .i64 0, .int .i64 0] 24)
  have hg9 : W4.heap.size ≤ wa.heap.size := Nat.le_trans hC0.size hwa.size
  clear hwa
  obtain ⟨g9, hG⟩ : ∃ G, G = wa.heap.size := ⟨_, rfl⟩
  obtain ⟨wA, hWA⟩ : ∃ X, X = wa.alloc (.cells #[.int .i64 0, .int .i64 0] 24) := ⟨_, rfl⟩
  rw [← hG] at s9 hg9 ⊢
  rw [← hWA] at s9 hC1 ⊢
  clear hG hWA
  (refine wpAnyG_one (i := 10) (by kernel_rfl) rfl (by rfl) (fun wb hwb K hK => ?_)); refine wp_store_box (s9.below hwb) rfl rfl rfl rfl (by kernel_rfl) (by simp [Value.oneCell']) (fun wc s8 ho => ?_); dsimp only [Act.put]; refine hK _ _ ((hCC _ _ hC1 hwb).trans (ho.below hg9)) ?_; clear hK K
  have hC2 := (hCC _ _ hC1 hwb).trans (ho.below hg9)
  clear s9 hC1 ho hwb
  (refine wpAnyG_one (i := 11) (by kernel_rfl) rfl (by rfl) (fun wd hwd K hK => ?_)); go_simp; refine hK _ _ (hCC _ _ hC2 hwd) ?_; clear hK K
  refine wpAnyG_done (by kernel_rfl) (fun wz hwz => ?_) _
  have h9 := (s8.below hwd).below hwz
  have hz9 := hCC _ _ (hCC _ _ hC2 hwd) hwz
  clear s8 hC2 hwd hwz hC0 hCC
  obtain ⟨g7, rfl⟩ : ∃ x, x = g9 := ⟨_, rfl⟩
  have K7 := Lib.hid h9
  have HA5 := Lib.hid (HA.out.below hz9)
  have K45 := Lib.hid (K4.out.below hz9)
  have hbw5 := hbw.trans (hz9.mono hbw.size)
  clear h9 hz9 hg9 HA K4 K6 L5 HMU hbw
  obtain ⟨⟨b0, b1, b2, b3, b4, b5, b6⟩, c0, c1, c2, c3, c4, c5⟩ := HA5.out.cells
  go_wp2_with fail
  refine (Errors_any exB exX (some ⟨tb, 0, none⟩) 3 (some ⟨rb, 0, none⟩) 2 2 exR _ (by decide) (by decide) HA5.out.marks (by decide) HA5.out.row).mono ?_
  rintro e w5 ⟨o1, p1, rfl, hS1, hb5⟩
  rw [ex_test] at hS1 ⊢
  dsimp only at hS1 ⊢
  rw [cnt_zero] at hS1 ⊢
  have HS1 := Lib.hid hS1
  have HA6 := Lib.hid (HA5.out.below hb5)
  have K46 := Lib.hid (K45.out.below hb5)
  have K76 := Lib.hid (K7.out.below hb5)
  have hbw6 := hbw5.trans (hb5.mono hbw5.size)
  clear b0 b1 b2 b3 b4 b5 b6 c0 c1 c2 c3 c4 c5
  clear hS1 hb5 HA5 K45 K7 hbw5
  obtain ⟨⟨b0, b1, b2, b3, b4, b5, b6⟩, c0, c1, c2, c3, c4, c5⟩ := HA6.out.cells
  go_wp2_with fail
  refine (Passed_any exB exX (some ⟨tb, 0, none⟩) 3 (some ⟨rb, 0, none⟩) 2 2 exR 200 _ (by decide) (by decide) HA6.out.marks (by decide) HA6.out.row).mono ?_
  rintro e w6 ⟨o2, p2, rfl, hS2, hb6⟩
  rw [ex_test] at hS2 ⊢
  rw [show passE (((⟨10180, 10360⟩ : Spn), (0 : Int)) : Spn × Int).2 200 = 0 by decide] at hS2 ⊢
  dsimp only at hS2 ⊢
  rw [cnt_zero] at hS2 ⊢
  have HS2 := Lib.hid hS2
  have HS1b := Lib.hid (HS1.out.mono hb6)
  have HA7 := Lib.hid (HA6.out.below hb6)
  have K47 := Lib.hid (K46.out.below hb6)
  have K77 := Lib.hid (K76.out.below hb6)
  have hbw7 := hbw6.trans (hb6.mono hbw6.size)
  clear b0 b1 b2 b3 b4 b5 b6 c0 c1 c2 c3 c4 c5
  clear hS2 hb6 HA6 K46 K76 hbw6 HS1
  obtain ⟨⟨b0, b1, b2, b3, b4, b5, b6⟩, c0, c1, c2, c3, c4, c5⟩ := HA7.out.cells
  go_wp2_with fail
  refine (Passed_any exB exX (some ⟨tb, 0, none⟩) 3 (some ⟨rb, 0, none⟩) 2 2 exR 600 _ (by decide) (by decide) HA7.out.marks (by decide) HA7.out.row).mono ?_
  rintro e w7 ⟨o3, p3, rfl, hS3, hb7⟩
  rw [ex_test] at hS3 ⊢
  rw [show passE (((⟨10180, 10360⟩ : Spn), (0 : Int)) : Spn × Int).2 600 = 0 by decide] at hS3 ⊢
  dsimp only at hS3 ⊢
  rw [cnt_zero] at hS3 ⊢
  have HS3 := Lib.hid hS3
  have HS2b := Lib.hid (HS2.out.mono hb7)
  have HS1 := Lib.hid (HS1b.out.mono hb7)
  have HA8 := Lib.hid (HA7.out.below hb7)
  have K48 := Lib.hid (K47.out.below hb7)
  have K78 := Lib.hid (K77.out.below hb7)
  have hbw8 := hbw7.trans (hb7.mono hbw7.size)
  clear b0 b1 b2 b3 b4 b5 b6 c0 c1 c2 c3 c4 c5
  clear hS3 hb7 HA7 K47 K77 hbw7 HS1b HS2
  obtain ⟨⟨b0, b1, b2, b3, b4, b5, b6⟩, c0, c1, c2, c3, c4, c5⟩ := HA8.out.cells
  go_wp2_with fail
  refine (Gap_any exB exX (some ⟨tb, 0, none⟩) 3 (some ⟨rb, 0, none⟩) 2 2 exR 0 1 _ (by decide) (by decide) HA8.out.marks (by decide) HA8.out.row).mono ?_
  rintro e w8 ⟨rfl, hb8⟩
  rw [ex_test]
  dsimp only
  rw [ex_gap.1, ex_gap.2]
  have hbE := hb8.alloc hb8.size (.cells #[.int .i64 193, .int .i64 207] 24)
  have T15 := Box.new (g := w8.heap.size) #[.int .i64 193, .int .i64 207] 24 w8 rfl
  have HS3b := Lib.hid (HS3.out.mono hbE)
  have HS2 := Lib.hid (HS2b.out.mono hbE)
  have HS1b := Lib.hid (HS1.out.mono hbE)
  have HA9 := Lib.hid (HA8.out.below hbE)
  have K49 := Lib.hid (K48.out.below hbE)
  have K79 := Lib.hid (K78.out.below hbE)
  have hbw9 := hbw8.trans (hbE.mono hbw8.size)
  clear b0 b1 b2 b3 b4 b5 b6 c0 c1 c2 c3 c4 c5
  clear hb8 hbE HA8 K48 K78 hbw8 HS1 HS2b HS3
  go_upto_region 9 with fail
  obtain ⟨g15, hg⟩ : ∃ n, n = w8.heap.size := ⟨_, rfl⟩
  obtain ⟨W9, hW⟩ : ∃ X, X = w8.alloc (.cells #[.int .i64 193, .int .i64 207] 24) := ⟨_, rfl⟩
  rw [← hW] at T15 HS3b HS2 HS1b HA9 K49 K79 hbw9 ⊢
  rw [← hg] at T15 ⊢
  clear hW hg
  have K15 := Lib.hid T15
  clear T15
  have hCC : ∀ A B : World, Below W9.heap.size W9 A → Below A.heap.size A B → Below W9.heap.size W9 B := fun A B h1 h2 => h1.trans (h2.mono h1.size)
  have hC0 : Below W9.heap.size W9 W9.drew := (Below.refl _ _).drew
  go_wp2_with fail
  refine wp_region_garb (Below W9.heap.size W9) (by kernel_rfl) ?_
  (refine wpAnyG_take (i := 0) hCC hC0 rfl (by kernel_rfl) (by kernel_rfl) (by kernel_rfl) (fun _ _ _ _ h => h) (by rfl) ?_; apply Exists.intro; refine ⟨fun w1 h1 K hK => ?_, ?_⟩; · (have f := fun W : Aft w1 => HA9.out.B.below (hCC _ _ h1 W.below); have f0 : ∀ W : Aft w1, W.val.cell? ⟨n, 0, none⟩ = some (.bool false) := fun W => (f W).cell 0 rfl; have f1 : ∀ W : Aft w1, W.val.cell? ⟨n, 1, none⟩ = some (.slice (some ⟨tb, 0, none⟩) 3 3) := fun W => (f W).cell 1 rfl; have f2 : ∀ W : Aft w1, W.val.cell? ⟨n, 2, none⟩ = some (.int .i64 10) := fun W => (f W).cell 2 rfl; have f3 : ∀ W : Aft w1, W.val.cell? ⟨n, 3, none⟩ = some (.int .i64 0) := fun W => (f W).cell 3 rfl; have f4 : ∀ W : Aft w1, W.val.cell? ⟨n, 4, none⟩ = some (.int .i64 0) := fun W => (f W).cell 4 rfl; have f5 : ∀ W : Aft w1, W.val.cell? ⟨n, 5, none⟩ = some (.int .i64 0) := fun W => (f W).cell 5 rfl; have f6 : ∀ W : Aft w1, W.val.cell? ⟨n, 6, none⟩ = some (.int .i64 20) := fun W => (f W).cell 6 rfl; go_big_quiet_op; first | exact hK | fail))
  (refine wpAnyG_take (i := 1) hCC hC0 rfl (by kernel_rfl) (by kernel_rfl) (by kernel_rfl) (fun _ _ _ _ h => h) (by rfl) ?_; apply Exists.intro; refine ⟨fun w1 h1 K hK => ?_, ?_⟩; · (have f := fun W : Aft w1 => HA9.out.X.below (hCC _ _ h1 W.below); have f0 : ∀ W : Aft w1, W.val.cell? ⟨n + 1, 0, none⟩ = some (.int .i64 10) := fun W => (f W).cell 0 rfl; have f1 : ∀ W : Aft w1, W.val.cell? ⟨n + 1, 1, none⟩ = some (.int .i64 10) := fun W => (f W).cell 1 rfl; have f2 : ∀ W : Aft w1, W.val.cell? ⟨n + 1, 2, none⟩ = some (.int .i64 110) := fun W => (f W).cell 2 rfl; have f3 : ∀ W : Aft w1, W.val.cell? ⟨n + 1, 3, none⟩ = some (.int .i64 111) := fun W => (f W).cell 3 rfl; have f4 : ∀ W : Aft w1, W.val.cell? ⟨n + 1, 4, none⟩ = some (.int .i64 0) := fun W => (f W).cell 4 rfl; have f5 : ∀ W : Aft w1, W.val.cell? ⟨n + 1, 5, none⟩ = some (.int .i64 0) := fun W => (f W).cell 5 rfl; go_big_quiet_op; first | exact hK | fail))
  (refine wpAnyG_take (i := 2) hCC hC0 rfl (by kernel_rfl) (by kernel_rfl) (by kernel_rfl) (fun _ _ _ _ h => h) (by rfl) ?_; apply Exists.intro; refine ⟨fun w1 h1 K hK => ?_, ?_⟩; · ( go_big_quiet_op; first | exact hK | exact ⟨_, fun W => aft_call (span_any _ _ _), hK⟩))
  (refine wpAnyG_take (i := 3) hCC hC0 rfl (by kernel_rfl) (by kernel_rfl) (by kernel_rfl) (fun _ _ _ _ h => h) (by rfl) ?_; apply Exists.intro; refine ⟨fun w1 h1 K hK => ?_, ?_⟩; · ( go_big_quiet_op; first | exact hK | exact ⟨_, fun W => aft_call (Flow_any exB exX ⟨60000, 60000⟩ (some ⟨tb, 0, none⟩) 3 _ (by decide) (by decide) (HA9.out.marks.mono (hCC _ _ h1 W.below))), hK⟩))
  rw [ex_flow]
  (refine wpAnyG_take (i := 4) hCC hC0 rfl (by kernel_rfl) (by kernel_rfl) (by kernel_rfl) (fun _ _ _ _ h => h) (by rfl) ?_; apply Exists.intro; refine ⟨fun w1 h1 K hK => ?_, ?_⟩; · ( go_big_quiet_op; first | exact hK | fail))
  (refine wpAnyG_take (i := 5) hCC hC0 rfl (by kernel_rfl) (by kernel_rfl) (by kernel_rfl) (fun _ _ _ _ h => h) (by rfl) ?_; apply Exists.intro; refine ⟨fun w1 h1 K hK => ?_, ?_⟩; · ( go_big_quiet_op; first | exact hK | fail))
  (refine wpAnyG_take (i := 6) hCC hC0 rfl (by kernel_rfl) (by kernel_rfl) (by kernel_rfl) (fun _ _ _ _ h => h) (by rfl) ?_; apply Exists.intro; refine ⟨fun w1 h1 K hK => ?_, ?_⟩; · ( go_big_quiet_op; first | exact hK | fail))
  (refine wpAnyG_one (i := 7) (by kernel_rfl) rfl (by rfl) (fun wa hwa K hK => ?_)); go_simp; refine hK _ _ ((hCC _ _ hC0 hwa).alloc (by have := hC0.size; have := hwa.size; omega) _) ?_; clear hK K
  have s9 := Box.new (g := wa.heap.size) #[.int .i64 0, .int .i64 0] 24 wa rfl
  have hC1 := (hCC _ _ hC0 hwa).alloc (by have := hC0.size; have := hwa.size; omega) (.cells #[.int .i64 0, .int .i64 0] 24)
  have hg9 : W9.heap.size ≤ wa.heap.size := Nat.le_trans hC0.size hwa.size
  clear hwa
  obtain ⟨g9, hG⟩ : ∃ G, G = wa.heap.size := ⟨_, rfl⟩
  obtain ⟨wA, hWA⟩ : ∃ X, X = wa.alloc (.cells #[.int .i64 0, .int .i64 0] 24) := ⟨_, rfl⟩
  rw [← hG] at s9 hg9 ⊢
  rw [← hWA] at s9 hC1 ⊢
  clear hG hWA
  (refine wpAnyG_one (i := 8) (by kernel_rfl) rfl (by rfl) (fun wb hwb K hK => ?_)); refine wp_store_box (s9.below hwb) rfl rfl rfl rfl (by kernel_rfl) (by simp [Value.oneCell']) (fun wc s8 ho => ?_); dsimp only [Act.put]; refine hK _ _ ((hCC _ _ hC1 hwb).trans (ho.below hg9)) ?_; clear hK K
  have hC2 := (hCC _ _ hC1 hwb).trans (ho.below hg9)
  clear s9 hC1 ho hwb
  (refine wpAnyG_one (i := 9) (by kernel_rfl) rfl (by rfl) (fun wd hwd K hK => ?_)); go_simp; refine hK _ _ (hCC _ _ hC2 hwd) ?_; clear hK K
  refine wpAnyG_done (by kernel_rfl) (fun wz hwz => ?_) _
  have h9 := (s8.below hwd).below hwz
  have hz9 := hCC _ _ (hCC _ _ hC2 hwd) hwz
  clear s8 hC2 hwd hwz hC0 hCC
  have K17 := Lib.hid h9
  have HS3 := Lib.hid (HS3b.out.mono hz9)
  have HS2b := Lib.hid (HS2.out.mono hz9)
  have HS1 := Lib.hid (HS1b.out.mono hz9)
  have K4 := Lib.hid (K49.out.below hz9)
  have K7 := Lib.hid (K79.out.below hz9)
  have KG := Lib.hid (K15.out.below hz9)
  have hbw := hbw9.trans (hz9.mono hbw9.size)
  clear h9 hz9 hg9 HS3b HS2 HS1b HA9 K49 K79 K15 hbw9
  go_wp2_with fail
  obtain ⟨W, hW⟩ : ∃ X, X = wz := ⟨_, rfl⟩
  rw [← hW] at K17 HS3 HS2b HS1 K4 K7 KG hbw ⊢
  clear hW
  go_cut [106] (fun s106 wx => s106 = .bool false ∧ Below W.heap.size W wx)
  case first =>
    have hCC : ∀ A B : World, Below W.heap.size W A → Below A.heap.size A B → Below W.heap.size W B := fun A B h1 h2 => h1.trans (h2.mono h1.size)
    have hC0 : Below W.heap.size W W.drew := (Below.refl _ _).drew
    refine wp_region_garb (Below W.heap.size W) (by kernel_rfl) ?_
    (refine wpAnyG_take (i := 0) hCC hC0 rfl (by kernel_rfl) (by kernel_rfl) (by kernel_rfl) (fun _ _ _ _ h => h) (by rfl) ?_; apply Exists.intro; refine ⟨fun w1 h1 K hK => ?_, ?_⟩; · (have f := fun W : Aft w1 => K4.out.below (hCC _ _ h1 W.below); have f0 : ∀ W : Aft w1, W.val.cell? ⟨g4, 0, none⟩ = some (.int .i64 (10180)) := fun W => (f W).cell 0 rfl; have f1 : ∀ W : Aft w1, W.val.cell? ⟨g4, 1, none⟩ = some (.int .i64 (10360)) := fun W => (f W).cell 1 rfl; go_big_quiet_op; first | exact hK | fail))
    (refine wpAnyG_take (i := 1) hCC hC0 rfl (by kernel_rfl) (by kernel_rfl) (by kernel_rfl) (fun _ _ _ _ h => h) (by rfl) ?_; apply Exists.intro; refine ⟨fun w1 h1 K hK => ?_, ?_⟩; · ( go_big_quiet_op; first | exact hK | exact ⟨_, fun W => aft_call (span_any _ _ _), hK⟩))
    (refine wpAnyG_take (i := 2) hCC hC0 rfl (by kernel_rfl) (by kernel_rfl) (by kernel_rfl) (fun _ _ _ _ h => h) (by rfl) ?_; apply Exists.intro; refine ⟨fun w1 h1 K hK => ?_, ?_⟩; · ( go_big_quiet_op; first | exact hK | fail))
    (refine wpAnyG_take (i := 3) hCC hC0 rfl (by kernel_rfl) (by kernel_rfl) (by kernel_rfl) (fun _ _ _ _ h => h) (by rfl) ?_; apply Exists.intro; refine ⟨fun w1 h1 K hK => ?_, ?_⟩; · ( go_big_quiet_op; first | exact hK | fail))
    (refine wpAnyG_take (i := 4) hCC hC0 rfl (by kernel_rfl) (by kernel_rfl) (by kernel_rfl) (fun _ _ _ _ h => h) (by rfl) ?_; apply Exists.intro; refine ⟨fun w1 h1 K hK => ?_, ?_⟩; · ( go_big_quiet_op; first | exact hK | fail))
    (refine wpAnyG_take (i := 5) hCC hC0 rfl (by kernel_rfl) (by kernel_rfl) (by kernel_rfl) (fun _ _ _ _ h => h) (by rfl) ?_; apply Exists.intro; refine ⟨fun w1 h1 K hK => ?_, ?_⟩; · ( go_big_quiet_op; first | exact hK | fail))
    (refine wpAnyG_take (i := 6) hCC hC0 rfl (by kernel_rfl) (by kernel_rfl) (by kernel_rfl) (fun _ _ _ _ h => h) (by rfl) ?_; apply Exists.intro; refine ⟨fun w1 h1 K hK => ?_, ?_⟩; · ( go_big_quiet_op; first | exact hK | fail))
    (refine wpAnyG_take (i := 7) hCC hC0 rfl (by kernel_rfl) (by kernel_rfl) (by kernel_rfl) (fun _ _ _ _ h => h) (by rfl) ?_; apply Exists.intro; refine ⟨fun w1 h1 K hK => ?_, ?_⟩; · ( go_big_quiet_op; first | exact hK | fail))
    (refine wpAnyG_take (i := 8) hCC hC0 rfl (by kernel_rfl) (by kernel_rfl) (by kernel_rfl) (fun _ _ _ _ h => h) (by rfl) ?_; apply Exists.intro; refine ⟨fun w1 h1 K hK => ?_, ?_⟩; · (have f := fun W : Aft w1 => K7.out.below (hCC _ _ h1 W.below); have f0 : ∀ W : Aft w1, W.val.cell? ⟨g7, 0, none⟩ = some (.int .i64 (9990)) := fun W => (f W).cell 0 rfl; have f1 : ∀ W : Aft w1, W.val.cell? ⟨g7, 1, none⟩ = some (.int .i64 (10014)) := fun W => (f W).cell 1 rfl; go_big_quiet_op; first | exact hK | fail))
    (refine wpAnyG_take (i := 9) hCC hC0 rfl (by kernel_rfl) (by kernel_rfl) (by kernel_rfl) (fun _ _ _ _ h => h) (by rfl) ?_; apply Exists.intro; refine ⟨fun w1 h1 K hK => ?_, ?_⟩; · ( go_big_quiet_op; first | exact hK | exact ⟨_, fun W => aft_call (span_any _ _ _), hK⟩))
    (refine wpAnyG_take (i := 10) hCC hC0 rfl (by kernel_rfl) (by kernel_rfl) (by kernel_rfl) (fun _ _ _ _ h => h) (by rfl) ?_; apply Exists.intro; refine ⟨fun w1 h1 K hK => ?_, ?_⟩; · ( go_big_quiet_op; first | exact hK | fail))
    (refine wpAnyG_take (i := 11) hCC hC0 rfl (by kernel_rfl) (by kernel_rfl) (by kernel_rfl) (fun _ _ _ _ h => h) (by rfl) ?_; apply Exists.intro; refine ⟨fun w1 h1 K hK => ?_, ?_⟩; · ( go_big_quiet_op; first | exact hK | fail))
    (refine wpAnyG_take (i := 12) hCC hC0 rfl (by kernel_rfl) (by kernel_rfl) (by kernel_rfl) (fun _ _ _ _ h => h) (by rfl) ?_; apply Exists.intro; refine ⟨fun w1 h1 K hK => ?_, ?_⟩; · ( go_big_quiet_op; first | exact hK | fail))
    (refine wpAnyG_take (i := 13) hCC hC0 rfl (by kernel_rfl) (by kernel_rfl) (by kernel_rfl) (fun _ _ _ _ h => h) (by rfl) ?_; apply Exists.intro; refine ⟨fun w1 h1 K hK => ?_, ?_⟩; · ( go_big_quiet_op; first | exact hK | fail))
    (refine wpAnyG_take (i := 14) hCC hC0 rfl (by kernel_rfl) (by kernel_rfl) (by kernel_rfl) (fun _ _ _ _ h => h) (by rfl) ?_; apply Exists.intro; refine ⟨fun w1 h1 K hK => ?_, ?_⟩; · ( go_big_quiet_op; first | exact hK | fail))
    (refine wpAnyG_take (i := 15) hCC hC0 rfl (by kernel_rfl) (by kernel_rfl) (by kernel_rfl) (fun _ _ _ _ h => h) (by rfl) ?_; apply Exists.intro; refine ⟨fun w1 h1 K hK => ?_, ?_⟩; · ( go_big_quiet_op; first | exact hK | fail))
    (refine wpAnyG_take (i := 16) hCC hC0 rfl (by kernel_rfl) (by kernel_rfl) (by kernel_rfl) (fun _ _ _ _ h => h) (by rfl) ?_; apply Exists.intro; refine ⟨fun w1 h1 K hK => ?_, ?_⟩; · ( go_big_quiet_op; first | exact hK | fail))
    (refine wpAnyG_take (i := 17) hCC hC0 rfl (by kernel_rfl) (by kernel_rfl) (by kernel_rfl) (fun _ _ _ _ h => h) (by rfl) ?_; apply Exists.intro; refine ⟨fun w1 h1 K hK => ?_, ?_⟩; · ( go_big_quiet_op; first | exact hK | fail))
    (refine wpAnyG_take (i := 18) hCC hC0 rfl (by kernel_rfl) (by kernel_rfl) (by kernel_rfl) (fun _ _ _ _ h => h) (by rfl) ?_; apply Exists.intro; refine ⟨fun w1 h1 K hK => ?_, ?_⟩; · ( go_big_quiet_op; first | exact hK | exact ⟨_, fun W => aft_call (span_any _ _ _), hK⟩))
    (refine wpAnyG_take (i := 19) hCC hC0 rfl (by kernel_rfl) (by kernel_rfl) (by kernel_rfl) (fun _ _ _ _ h => h) (by rfl) ?_; apply Exists.intro; refine ⟨fun w1 h1 K hK => ?_, ?_⟩; · ( go_big_quiet_op; first | exact hK | exact ⟨_, fun W => aft_call (span_any _ _ _), hK⟩))
    (refine wpAnyG_one (i := 20) (by kernel_rfl) rfl (by rfl) (fun wa hwa K hK => ?_))
    go_simp
    refine hK _ _ ((hCC _ _ hC0 hwa).alloc (by have := hC0.size; have := hwa.size; omega) _) ?_
    clear hK K
    have ks := Box.new (g := wa.heap.size) #[.int .i64 (-348), .int .i64 (-166), .int .i64 (-541), .int .i64 (-373)] 24 wa rfl
    have hC1 := (hCC _ _ hC0 hwa).alloc (by have := hC0.size; have := hwa.size; omega) (.cells #[.int .i64 (-348), .int .i64 (-166), .int .i64 (-541), .int .i64 (-373)] 24)
    obtain ⟨G1, hG⟩ : ∃ G, G = wa.heap.size := ⟨_, rfl⟩
    obtain ⟨wA, hWA⟩ : ∃ X, X = wa.alloc (.cells #[.int .i64 (-348), .int .i64 (-166), .int .i64 (-541), .int .i64 (-373)] 24) := ⟨_, rfl⟩
    rw [← hG] at ks ⊢
    rw [← hWA] at ks hC1 ⊢
    clear hG hWA hC0 hwa
    have hls : SpnsAt wA (some ⟨G1, 0, none⟩) 2 (fun i => if i = 0 then ⟨-348, -166⟩ else ⟨-541, -373⟩) := fun i hi => by
      have : i = 0 ∨ i = 1 := by omega
      rcases this with rfl | rfl
      · exact ⟨_, _, rfl, ks.lt, ks.cell 0 rfl, ks.cell 1 rfl⟩
      · exact ⟨_, _, rfl, ks.lt, ks.cell 2 rfl, ks.cell 3 rfl⟩
    have HLS := Lib.hid hls
    clear hls ks
    (refine wpAnyG_one (i := 21) (by kernel_rfl) rfl (by rfl) (fun wb hwb K hK => ?_))
    go_simp
    refine (Spans_any o1 (some ⟨G1, 0, none⟩) 2 2 p1 2 _ _ _ (by decide) (by decide) (HS1.out.mono ((hC1.mono (Nat.le_refl _)).trans (hwb.mono hC1.size))) (HLS.out.mono hwb)).mono ?_
    rintro e wc ⟨rfl, hbc⟩
    rw [show sameS 2 2 (fun i => errR ⟨10180, 10360⟩ (exR i)) (fun i => if i = 0 then ⟨-348, -166⟩ else ⟨-541, -373⟩) = true by decide +kernel]
    refine hK _ _ (hCC _ _ (hCC _ _ hC1 hwb) hbc) ?_
    clear hK K
    have hC0 := hCC _ _ (hCC _ _ hC1 hwb) hbc
    clear hC1 hwb hbc HLS
    (refine wpAnyG_take (i := 22) hCC hC0 rfl (by kernel_rfl) (by kernel_rfl) (by kernel_rfl) (fun _ _ _ _ h => h) (by rfl) ?_; apply Exists.intro; refine ⟨fun w1 h1 K hK => ?_, ?_⟩; · ( go_big_quiet_op; first | exact hK | fail))
    (refine wpAnyG_take (i := 23) hCC hC0 rfl (by kernel_rfl) (by kernel_rfl) (by kernel_rfl) (fun _ _ _ _ h => h) (by rfl) ?_; apply Exists.intro; refine ⟨fun w1 h1 K hK => ?_, ?_⟩; · ( go_big_quiet_op; first | exact hK | fail))
    (refine wpAnyG_take (i := 24) hCC hC0 rfl (by kernel_rfl) (by kernel_rfl) (by kernel_rfl) (fun _ _ _ _ h => h) (by rfl) ?_; apply Exists.intro; refine ⟨fun w1 h1 K hK => ?_, ?_⟩; · ( go_big_quiet_op; first | exact hK | fail))
    (refine wpAnyG_take (i := 25) hCC hC0 rfl (by kernel_rfl) (by kernel_rfl) (by kernel_rfl) (fun _ _ _ _ h => h) (by rfl) ?_; apply Exists.intro; refine ⟨fun w1 h1 K hK => ?_, ?_⟩; · ( go_big_quiet_op; first | exact hK | fail))
    (refine wpAnyG_take (i := 26) hCC hC0 rfl (by kernel_rfl) (by kernel_rfl) (by kernel_rfl) (fun _ _ _ _ h => h) (by rfl) ?_; apply Exists.intro; refine ⟨fun w1 h1 K hK => ?_, ?_⟩; · ( go_big_quiet_op; first | exact hK | fail))
    (refine wpAnyG_take (i := 27) hCC hC0 rfl (by kernel_rfl) (by kernel_rfl) (by kernel_rfl) (fun _ _ _ _ h => h) (by rfl) ?_; apply Exists.intro; refine ⟨fun w1 h1 K hK => ?_, ?_⟩; · ( go_big_quiet_op; first | exact hK | fail))
    refine wpAnyG_done (by kernel_rfl) (fun wz hwz => ?_) _
    go_wp2_with fail
    go_meet
    exact ⟨rfl, hCC _ _ hC0 hwz⟩
  case rest =>
    obtain ⟨rfl, hbx⟩ := hcut
    have K17b := Lib.hid (K17.out.below hbx)
    have HS3b := Lib.hid (HS3.out.mono hbx)
    have HS2 := Lib.hid (HS2b.out.mono hbx)
    have KGb := Lib.hid (KG.out.below hbx)
    have hbw' := hbw.trans (hbx.mono hbw.size)
    clear K17 HS3 HS2b HS1 K4 K7 KG hbw hbx
    go_wp2_with fail
    obtain ⟨W, hW⟩ : ∃ X, X = wc := ⟨_, rfl⟩
    rw [← hW] at K17b HS3b HS2 KGb hbw' ⊢
    clear hW
    have hCC : ∀ A B : World, Below W.heap.size W A → Below A.heap.size A B → Below W.heap.size W B := fun A B h1 h2 => h1.trans (h2.mono h1.size)
    have hC0 : Below W.heap.size W W.drew := (Below.refl _ _).drew
    refine wp_region_garb (Below W.heap.size W) (by kernel_rfl) ?_
    (refine wpAnyG_take (i := 0) hCC hC0 rfl (by kernel_rfl) (by kernel_rfl) (by kernel_rfl) (fun _ _ _ _ h => h) (by rfl) ?_; apply Exists.intro; refine ⟨fun w1 h1 K hK => ?_, ?_⟩; · ( go_big_quiet_op; first | exact hK | fail))
    (refine wpAnyG_one (i := 1) (by kernel_rfl) rfl (by rfl) (fun wa hwa K hK => ?_))
    go_simp
    refine hK _ _ ((hCC _ _ hC0 hwa).alloc (by have := hC0.size; have := hwa.size; omega) _) ?_
    clear hK K
    have ks := Box.new (g := wa.heap.size) #[.int .i64 1, .int .i64 0] 3 wa rfl
    have hC1 := (hCC _ _ hC0 hwa).alloc (by have := hC0.size; have := hwa.size; omega) (.cells #[.int .i64 1, .int .i64 0] 3)
    obtain ⟨G1, hG⟩ : ∃ G, G = wa.heap.size := ⟨_, rfl⟩
    obtain ⟨wA, hWA⟩ : ∃ X, X = wa.alloc (.cells #[.int .i64 1, .int .i64 0] 3) := ⟨_, rfl⟩
    rw [← hG] at ks ⊢
    rw [← hWA] at ks hC1 ⊢
    clear hG hWA hC0 hwa
    have hls : IntsAt wA (some ⟨G1, 0, none⟩) 2 (fun i => if i = 0 then 1 else 0) := fun i hi => by
      have : i = 0 ∨ i = 1 := by omega
      rcases this with rfl | rfl
      · exact ⟨_, _, rfl, ks.lt, ks.cell 0 rfl⟩
      · exact ⟨_, _, rfl, ks.lt, ks.cell 1 rfl⟩
    have HLS := Lib.hid hls
    clear hls ks
    (refine wpAnyG_one (i := 2) (by kernel_rfl) rfl (by rfl) (fun wb hwb K hK => ?_))
    go_simp
    refine (Ints_any o2 (some ⟨G1, 0, none⟩) 2 2 p2 2 _ _ _ (by decide) (by decide) (HS2.out.mono (hC1.trans (hwb.mono hC1.size))) (HLS.out.mono hwb)).mono ?_
    rintro e wc ⟨rfl, hbc⟩
    rw [show sameI 2 2 (fun i => passR ⟨10180, 10360⟩ (exR i) 200) (fun i => if i = 0 then 1 else 0) = true by decide +kernel]
    refine hK _ _ (hCC _ _ (hCC _ _ hC1 hwb) hbc) ?_
    clear hK K
    have hC0 := hCC _ _ (hCC _ _ hC1 hwb) hbc
    clear hC1 hwb hbc HLS
    (refine wpAnyG_take (i := 3) hCC hC0 rfl (by kernel_rfl) (by kernel_rfl) (by kernel_rfl) (fun _ _ _ _ h => h) (by rfl) ?_; apply Exists.intro; refine ⟨fun w1 h1 K hK => ?_, ?_⟩; · ( go_big_quiet_op; first | exact hK | fail))
    (refine wpAnyG_take (i := 4) hCC hC0 rfl (by kernel_rfl) (by kernel_rfl) (by kernel_rfl) (fun _ _ _ _ h => h) (by rfl) ?_; apply Exists.intro; refine ⟨fun w1 h1 K hK => ?_, ?_⟩; · ( go_big_quiet_op; first | exact hK | fail))
    (refine wpAnyG_take (i := 5) hCC hC0 rfl (by kernel_rfl) (by kernel_rfl) (by kernel_rfl) (fun _ _ _ _ h => h) (by rfl) ?_; apply Exists.intro; refine ⟨fun w1 h1 K hK => ?_, ?_⟩; · ( go_big_quiet_op; first | exact hK | fail))
    (refine wpAnyG_take (i := 6) hCC hC0 rfl (by kernel_rfl) (by kernel_rfl) (by kernel_rfl) (fun _ _ _ _ h => h) (by rfl) ?_; apply Exists.intro; refine ⟨fun w1 h1 K hK => ?_, ?_⟩; · ( go_big_quiet_op; first | exact hK | fail))
    (refine wpAnyG_take (i := 7) hCC hC0 rfl (by kernel_rfl) (by kernel_rfl) (by kernel_rfl) (fun _ _ _ _ h => h) (by rfl) ?_; apply Exists.intro; refine ⟨fun w1 h1 K hK => ?_, ?_⟩; · ( go_big_quiet_op; first | exact hK | fail))
    (refine wpAnyG_take (i := 8) hCC hC0 rfl (by kernel_rfl) (by kernel_rfl) (by kernel_rfl) (fun _ _ _ _ h => h) (by rfl) ?_; apply Exists.intro; refine ⟨fun w1 h1 K hK => ?_, ?_⟩; · ( go_big_quiet_op; first | exact hK | fail))
    (refine wpAnyG_one (i := 9) (by kernel_rfl) rfl (by rfl) (fun wa hwa K hK => ?_))
    go_simp
    refine hK _ _ ((hCC _ _ hC0 hwa).alloc (by have := hC0.size; have := hwa.size; omega) _) ?_
    clear hK K
    have ks := Box.new (g := wa.heap.size) #[.int .i64 2, .int .i64 2] 3 wa rfl
    have hC1 := (hCC _ _ hC0 hwa).alloc (by have := hC0.size; have := hwa.size; omega) (.cells #[.int .i64 2, .int .i64 2] 3)
    obtain ⟨G2, hG⟩ : ∃ G, G = wa.heap.size := ⟨_, rfl⟩
    obtain ⟨wA, hWA⟩ : ∃ X, X = wa.alloc (.cells #[.int .i64 2, .int .i64 2] 3) := ⟨_, rfl⟩
    rw [← hG] at ks ⊢
    rw [← hWA] at ks hC1 ⊢
    clear hG hWA hC0 hwa
    have hls : IntsAt wA (some ⟨G2, 0, none⟩) 2 (fun i => if i = 0 then 2 else 2) := fun i hi => by
      have : i = 0 ∨ i = 1 := by omega
      rcases this with rfl | rfl
      · exact ⟨_, _, rfl, ks.lt, ks.cell 0 rfl⟩
      · exact ⟨_, _, rfl, ks.lt, ks.cell 1 rfl⟩
    have HLS := Lib.hid hls
    clear hls ks
    (refine wpAnyG_one (i := 10) (by kernel_rfl) rfl (by rfl) (fun wb hwb K hK => ?_))
    go_simp
    refine (Ints_any o3 (some ⟨G2, 0, none⟩) 2 2 p3 2 _ _ _ (by decide) (by decide) (HS3b.out.mono (hC1.trans (hwb.mono hC1.size))) (HLS.out.mono hwb)).mono ?_
    rintro e wc ⟨rfl, hbc⟩
    rw [show sameI 2 2 (fun i => passR ⟨10180, 10360⟩ (exR i) 600) (fun i => if i = 0 then 2 else 2) = true by decide +kernel]
    refine hK _ _ (hCC _ _ (hCC _ _ hC1 hwb) hbc) ?_
    clear hK K
    have hC0 := hCC _ _ (hCC _ _ hC1 hwb) hbc
    clear hC1 hwb hbc HLS
    (refine wpAnyG_take (i := 11) hCC hC0 rfl (by kernel_rfl) (by kernel_rfl) (by kernel_rfl) (fun _ _ _ _ h => h) (by rfl) ?_; apply Exists.intro; refine ⟨fun w1 h1 K hK => ?_, ?_⟩; · ( go_big_quiet_op; first | exact hK | fail))
    (refine wpAnyG_take (i := 12) hCC hC0 rfl (by kernel_rfl) (by kernel_rfl) (by kernel_rfl) (fun _ _ _ _ h => h) (by rfl) ?_; apply Exists.intro; refine ⟨fun w1 h1 K hK => ?_, ?_⟩; · ( go_big_quiet_op; first | exact hK | fail))
    (refine wpAnyG_take (i := 13) hCC hC0 rfl (by kernel_rfl) (by kernel_rfl) (by kernel_rfl) (fun _ _ _ _ h => h) (by rfl) ?_; apply Exists.intro; refine ⟨fun w1 h1 K hK => ?_, ?_⟩; · ( go_big_quiet_op; first | exact hK | fail))
    (refine wpAnyG_take (i := 14) hCC hC0 rfl (by kernel_rfl) (by kernel_rfl) (by kernel_rfl) (fun _ _ _ _ h => h) (by rfl) ?_; apply Exists.intro; refine ⟨fun w1 h1 K hK => ?_, ?_⟩; · ( go_big_quiet_op; first | exact hK | fail))
    (refine wpAnyG_take (i := 15) hCC hC0 rfl (by kernel_rfl) (by kernel_rfl) (by kernel_rfl) (fun _ _ _ _ h => h) (by rfl) ?_; apply Exists.intro; refine ⟨fun w1 h1 K hK => ?_, ?_⟩; · ( go_big_quiet_op; first | exact hK | fail))
    (refine wpAnyG_take (i := 16) hCC hC0 rfl (by kernel_rfl) (by kernel_rfl) (by kernel_rfl) (fun _ _ _ _ h => h) (by rfl) ?_; apply Exists.intro; refine ⟨fun w1 h1 K hK => ?_, ?_⟩; · ( go_big_quiet_op; first | exact hK | fail))
    (refine wpAnyG_take (i := 17) hCC hC0 rfl (by kernel_rfl) (by kernel_rfl) (by kernel_rfl) (fun _ _ _ _ h => h) (by rfl) ?_; apply Exists.intro; refine ⟨fun w1 h1 K hK => ?_, ?_⟩; · (have f := fun W : Aft w1 => KGb.out.below (hCC _ _ h1 W.below); have f0 : ∀ W : Aft w1, W.val.cell? ⟨g15, 0, none⟩ = some (.int .i64 (193)) := fun W => (f W).cell 0 rfl; have f1 : ∀ W : Aft w1, W.val.cell? ⟨g15, 1, none⟩ = some (.int .i64 (207)) := fun W => (f W).cell 1 rfl; go_big_quiet_op; first | exact hK | fail))
    (refine wpAnyG_take (i := 18) hCC hC0 rfl (by kernel_rfl) (by kernel_rfl) (by kernel_rfl) (fun _ _ _ _ h => h) (by rfl) ?_; apply Exists.intro; refine ⟨fun w1 h1 K hK => ?_, ?_⟩; · ( go_big_quiet_op; first | exact hK | exact ⟨_, fun W => aft_call (span_any _ _ _), hK⟩))
    (refine wpAnyG_take (i := 19) hCC hC0 rfl (by kernel_rfl) (by kernel_rfl) (by kernel_rfl) (fun _ _ _ _ h => h) (by rfl) ?_; apply Exists.intro; refine ⟨fun w1 h1 K hK => ?_, ?_⟩; · ( go_big_quiet_op; first | exact hK | fail))
    (refine wpAnyG_take (i := 20) hCC hC0 rfl (by kernel_rfl) (by kernel_rfl) (by kernel_rfl) (fun _ _ _ _ h => h) (by rfl) ?_; apply Exists.intro; refine ⟨fun w1 h1 K hK => ?_, ?_⟩; · ( go_big_quiet_op; first | exact hK | fail))
    (refine wpAnyG_take (i := 21) hCC hC0 rfl (by kernel_rfl) (by kernel_rfl) (by kernel_rfl) (fun _ _ _ _ h => h) (by rfl) ?_; apply Exists.intro; refine ⟨fun w1 h1 K hK => ?_, ?_⟩; · ( go_big_quiet_op; first | exact hK | fail))
    (refine wpAnyG_take (i := 22) hCC hC0 rfl (by kernel_rfl) (by kernel_rfl) (by kernel_rfl) (fun _ _ _ _ h => h) (by rfl) ?_; apply Exists.intro; refine ⟨fun w1 h1 K hK => ?_, ?_⟩; · ( go_big_quiet_op; first | exact hK | fail))
    (refine wpAnyG_take (i := 23) hCC hC0 rfl (by kernel_rfl) (by kernel_rfl) (by kernel_rfl) (fun _ _ _ _ h => h) (by rfl) ?_; apply Exists.intro; refine ⟨fun w1 h1 K hK => ?_, ?_⟩; · ( go_big_quiet_op; first | exact hK | fail))
    (refine wpAnyG_take (i := 24) hCC hC0 rfl (by kernel_rfl) (by kernel_rfl) (by kernel_rfl) (fun _ _ _ _ h => h) (by rfl) ?_; apply Exists.intro; refine ⟨fun w1 h1 K hK => ?_, ?_⟩; · ( go_big_quiet_op; first | exact hK | fail))
    (refine wpAnyG_take (i := 25) hCC hC0 rfl (by kernel_rfl) (by kernel_rfl) (by kernel_rfl) (fun _ _ _ _ h => h) (by rfl) ?_; apply Exists.intro; refine ⟨fun w1 h1 K hK => ?_, ?_⟩; · ( go_big_quiet_op; first | exact hK | fail))
    (refine wpAnyG_take (i := 26) hCC hC0 rfl (by kernel_rfl) (by kernel_rfl) (by kernel_rfl) (fun _ _ _ _ h => h) (by rfl) ?_; apply Exists.intro; refine ⟨fun w1 h1 K hK => ?_, ?_⟩; · (have f := fun W : Aft w1 => K17b.out.below (hCC _ _ h1 W.below); have f0 : ∀ W : Aft w1, W.val.cell? ⟨g9, 0, none⟩ = some (.int .i64 (610)) := fun W => (f W).cell 0 rfl; have f1 : ∀ W : Aft w1, W.val.cell? ⟨g9, 1, none⟩ = some (.int .i64 (622)) := fun W => (f W).cell 1 rfl; go_big_quiet_op; first | exact hK | fail))
    (refine wpAnyG_take (i := 27) hCC hC0 rfl (by kernel_rfl) (by kernel_rfl) (by kernel_rfl) (fun _ _ _ _ h => h) (by rfl) ?_; apply Exists.intro; refine ⟨fun w1 h1 K hK => ?_, ?_⟩; · ( go_big_quiet_op; first | exact hK | exact ⟨_, fun W => aft_call (span_any _ _ _), hK⟩))
    (refine wpAnyG_take (i := 28) hCC hC0 rfl (by kernel_rfl) (by kernel_rfl) (by kernel_rfl) (fun _ _ _ _ h => h) (by rfl) ?_; apply Exists.intro; refine ⟨fun w1 h1 K hK => ?_, ?_⟩; · ( go_big_quiet_op; first | exact hK | fail))
    (refine wpAnyG_take (i := 29) hCC hC0 rfl (by kernel_rfl) (by kernel_rfl) (by kernel_rfl) (fun _ _ _ _ h => h) (by rfl) ?_; apply Exists.intro; refine ⟨fun w1 h1 K hK => ?_, ?_⟩; · ( go_big_quiet_op; first | exact hK | fail))
    (refine wpAnyG_take (i := 30) hCC hC0 rfl (by kernel_rfl) (by kernel_rfl) (by kernel_rfl) (fun _ _ _ _ h => h) (by rfl) ?_; apply Exists.intro; refine ⟨fun w1 h1 K hK => ?_, ?_⟩; · ( go_big_quiet_op; first | exact hK | fail))
    (refine wpAnyG_take (i := 31) hCC hC0 rfl (by kernel_rfl) (by kernel_rfl) (by kernel_rfl) (fun _ _ _ _ h => h) (by rfl) ?_; apply Exists.intro; refine ⟨fun w1 h1 K hK => ?_, ?_⟩; · ( go_big_quiet_op; first | exact hK | fail))
    (refine wpAnyG_take (i := 32) hCC hC0 rfl (by kernel_rfl) (by kernel_rfl) (by kernel_rfl) (fun _ _ _ _ h => h) (by rfl) ?_; apply Exists.intro; refine ⟨fun w1 h1 K hK => ?_, ?_⟩; · ( go_big_quiet_op; first | exact hK | fail))
    (refine wpAnyG_take (i := 33) hCC hC0 rfl (by kernel_rfl) (by kernel_rfl) (by kernel_rfl) (fun _ _ _ _ h => h) (by rfl) ?_; apply Exists.intro; refine ⟨fun w1 h1 K hK => ?_, ?_⟩; · ( go_big_quiet_op; first | exact hK | fail))
    (refine wpAnyG_take (i := 34) hCC hC0 rfl (by kernel_rfl) (by kernel_rfl) (by kernel_rfl) (fun _ _ _ _ h => h) (by rfl) ?_; apply Exists.intro; refine ⟨fun w1 h1 K hK => ?_, ?_⟩; · ( go_big_quiet_op; first | exact hK | fail))
    refine wpAnyG_done (by kernel_rfl) (fun wz hwz => ?_) _
    go_wp2_with fail
    go_ret
    exact ⟨rfl, hbw'.trans ((hCC _ _ hC0 hwz).mono hbw'.size)⟩
end Go.Proofs.Ythoefcpeagclbaa
