/- Zone's Leaks of one zone and one night. -/
import Derived.Test.YtmeeknmjhlfnaaaDoorP20
namespace Go.Proofs.YtmeeknmjhlfnaaaDoor
open Go.RowKit
set_option maxHeartbeats 400000 in
theorem zWithin_any (n low high : Int) (w : World) :
    Calls Tryd.prog 23 #[.int .i64 n, .int .i64 low, .int .i64 high] w fun e w' => e = .returned (.bool (withinB n low high)) ∧ w = w' := by
  go_enter Tryd.func23, Tryd.ntmps23
  go_wp2
  all_goals (go_ret; exact ⟨ret_bool (by simp [withinB]; omega), rfl⟩)
set_option maxHeartbeats 400000 in
theorem zSpan_any (s : Spn) (low high : Int) (w : World) :
    Calls Tryd.prog 16 #[s.val, .int .i64 low, .int .i64 high] w fun e w' => e = .returned (.bool (spanB s low high)) ∧ Below w.heap.size w w' := by
  go_enter Tryd.func16, Tryd.ntmps16
  go_wp2
  all_goals (go_ret; exact ⟨ret_bool (by rw [Bool.eq_iff_iff]; simp [spanB]; omega), (by repeat' (first | exact Below.refl _ _ | assumption | apply below_drewN | apply Below.drew | (refine Below.alloc ?_ ?_ _) | (refine Below.setCell ?_ ?_ _) | (simp; done) | (simp; omega) | omega))⟩)
abbrev nightV (f s : Spn) : Value := .agg #[.int .i64 f.lo, .int .i64 f.hi, .int .i64 s.lo, .int .i64 s.hi, .int .i64 1, .int .i64 1]
abbrev NB (f s : Spn) (g : Nat) (w : World) : Prop := Box g #[.int .i64 f.lo, .int .i64 f.hi, .int .i64 s.lo, .int .i64 s.hi, .int .i64 1, .int .i64 1] 38 w
theorem NB.cells {f s : Spn} {g : Nat} {w : World} (h : NB f s g w) : w.cell? ⟨g, 0, none⟩ = some (.int .i64 f.lo) ∧ w.cell? ⟨g, 1, none⟩ = some (.int .i64 f.hi) ∧ w.cell? ⟨g, 2, none⟩ = some (.int .i64 s.lo) ∧ w.cell? ⟨g, 3, none⟩ = some (.int .i64 s.hi) ∧ w.cell? ⟨g, 4, none⟩ = some (.int .i64 1) ∧ w.cell? ⟨g, 5, none⟩ = some (.int .i64 1) ∧ g < w.heap.size :=
  ⟨h.cell 0 rfl, h.cell 1 rfl, h.cell 2 rfl, h.cell 3 rfl, h.cell 4 rfl, h.cell 5 rfl, h.lt⟩
abbrev ZB (a : Spn) (g : Nat) (w : World) : Prop := Box g #[.int .i64 a.lo, .int .i64 a.hi, .int .i64 0, .int .i64 0, .int .i64 0, .int .i64 0, .int .i64 0, .int .i64 0, .int .i64 (-1)] 41 w
theorem ZB.cells {a : Spn} {g : Nat} {w : World} (h : ZB a g w) : (w.cell? ⟨g, 0, none⟩ = some (.int .i64 a.lo) ∧ w.cell? ⟨g, 1, none⟩ = some (.int .i64 a.hi) ∧ w.cell? ⟨g, 2, none⟩ = some (.int .i64 0) ∧ w.cell? ⟨g, 3, none⟩ = some (.int .i64 0)) ∧ (w.cell? ⟨g, 4, none⟩ = some (.int .i64 0) ∧ w.cell? ⟨g, 5, none⟩ = some (.int .i64 0) ∧ w.cell? ⟨g, 6, none⟩ = some (.int .i64 0) ∧ w.cell? ⟨g, 7, none⟩ = some (.int .i64 0)) ∧ w.cell? ⟨g, 8, none⟩ = some (.int .i64 (-1)) ∧ g < w.heap.size :=
  ⟨⟨h.cell 0 rfl, h.cell 1 rfl, h.cell 2 rfl, h.cell 3 rfl⟩, ⟨h.cell 4 rfl, h.cell 5 rfl, h.cell 6 rfl, h.cell 7 rfl⟩, h.cell 8 rfl, h.lt⟩
set_option maxHeartbeats 1000000 in
theorem nightBad_any (f s : Spn) (w : World) (hf : litB f = true) (hs : litB s = true) :
    Calls Tryd.prog 15 #[nightV f s] w fun e w' => e = .returned (.bool false) ∧ Below w.heap.size w w' := by
  have HF := Lib.hid (show spanB f 0 1073741824 = true from hf)
  have HS := Lib.hid (show spanB s 0 1073741824 = true from hs)
  clear hf hs
  go_enter Tryd.func15, Tryd.ntmps15
  go_wp2_with fail
  have hb0 := below_alloc1 w (.cells #[.int .i64 f.lo, .int .i64 f.hi, .int .i64 s.lo, .int .i64 s.hi, .int .i64 1, .int .i64 1] 38)
  have z0 : NB f s w.heap.size (w.alloc (.cells #[.int .i64 f.lo, .int .i64 f.hi, .int .i64 s.lo, .int .i64 s.hi, .int .i64 1, .int .i64 1] 38)) := Box.new _ 38 w rfl
  refine (zSpan_any f _ _ _).mono ?_
  rintro e w1 ⟨rfl, hb1⟩
  rw [HF.out]
  have Z1 := Lib.hid (z0.below hb1)
  have L1 := Lib.hid (hb0.trans (hb1.mono hb0.size))
  clear hb0 hb1 z0
  obtain ⟨c0, c1, c2, c3, c4, c5, c6⟩ := NB.cells Z1.out
  go_wp2_with fail
  refine (zSpan_any s _ _ _).mono ?_
  rintro e w2 ⟨rfl, hb2⟩
  rw [HS.out]
  have Z2 := Lib.hid (Z1.out.below hb2)
  have L2 := Lib.hid (L1.out.trans (hb2.mono L1.out.size))
  clear hb2 Z1 L1 c0 c1 c2 c3 c4 c5 c6
  obtain ⟨c0, c1, c2, c3, c4, c5, c6⟩ := NB.cells Z2.out
  go_wp2_with fail
  refine (zSpan_any ⟨1, 1⟩ _ _ _).mono ?_
  rintro e w3 ⟨rfl, hb3⟩
  have hr : spanB ⟨1, 1⟩ 0 1000 = true := by decide
  rw [hr]
  go_wp2_with fail
  go_ret
  exact ⟨rfl, L2.out.trans (hb3.mono L2.out.size)⟩
set_option maxHeartbeats 1000000 in
theorem indexNight_any (f s : Spn) (gn cap : Nat) (w : World) (hf : litB f = true) (hs : litB s = true) (hN : NB f s gn w) :
    Calls Tryd.prog 24 #[.slice (some ⟨gn, 0, none⟩) 1 cap, .func (.func 15) #[] #[]] w fun e w' => e = .returned (.int .i64 (-1)) ∧ Below w.heap.size w w' := by
  have HN := Lib.hid hN
  clear hN
  go_enter Tryd.func24, Tryd.ntmps24
  go_wp2
  go_loopw [5, 8] (fun v5 v8 wr => ∃ k : Nat, k ≤ 1 ∧ v8 = .int .i64 k ∧ Below w.heap.size w wr) (fun _ i _ => 1 - (intOf i).toNat)
  case atStart => exact ⟨0, Nat.zero_le _, rfl, Below.refl _ _⟩
  case round =>
    obtain ⟨k, hk, rfl, hb0⟩ := hrel
    by_cases hlt : k < 1
    · obtain rfl : k = 0 := by omega
      obtain ⟨c0, c1, c2, c3, c4, c5, c6⟩ := NB.cells (HN.out.below hb0)
      go_wp2_with (go_at_call 15; refine (nightBad_any f s _ hf hs).mono ?_; rintro e w1 ⟨rfl, hb1⟩)
      go_roundw
      case rel => exact ⟨1, by omega, by go_num, hb0.trans (hb1.mono hb0.size)⟩
      case measure => simp [intOf]
    · obtain rfl : k = 1 := by omega
      go_wp2
      go_ret
      exact ⟨rfl, hb0⟩
set_option maxHeartbeats 1000000 in
theorem containsNight_any (f s : Spn) (gn cap : Nat) (w : World) (hf : litB f = true) (hs : litB s = true) (hN : NB f s gn w) :
    Calls Tryd.prog 18 #[.slice (some ⟨gn, 0, none⟩) 1 cap, .func (.func 15) #[] #[]] w fun e w' => e = .returned (.bool false) ∧ Below w.heap.size w w' := by
  have HN := Lib.hid hN
  clear hN
  go_enter Tryd.func18, Tryd.ntmps18
  go_wp2_with fail
  refine (indexNight_any f s gn cap _ hf hs HN.out).mono ?_
  rintro e w1 ⟨rfl, hb⟩
  go_wp2
  go_ret
  exact ⟨rfl, hb⟩
set_option maxHeartbeats 2000000 in
theorem isList_any (a : Spn) (gz cap : Nat) (w : World) (ha : litB a = true) (hZ : ZB a gz w) :
    Calls Tryd.prog 17 #[.slice (some ⟨gz, 0, none⟩) 1 cap] w fun e w' => e = .returned (.bool true) ∧ Below w.heap.size w w' := by
  have HZ := Lib.hid hZ
  have HA := Lib.hid (show spanB a 0 1073741824 = true from ha)
  clear hZ ha
  go_enter Tryd.func17, Tryd.ntmps17
  go_wp2
  go_loopw [8] (fun v8 wr => ∃ k : Nat, k ≤ 1 ∧ v8 = .int .i64 k ∧ Below w.heap.size w wr) (fun i _ => 1 - (intOf i).toNat)
  case atStart => exact ⟨0, Nat.zero_le _, rfl, Below.refl _ _⟩
  case round =>
    obtain ⟨k, hk, rfl, hb0⟩ := hrel
    by_cases hlt : k < 1
    · obtain rfl : k = 0 := by omega
      obtain ⟨⟨c0, c1, c2, c3⟩, ⟨c4, c5, c6, c7⟩, c8, c9⟩ := ZB.cells (HZ.out.below hb0)
      go_upto_region 4 with fail
      have z0 : ZB a wr.heap.size (wr.alloc (.cells #[.int .i64 a.lo, .int .i64 a.hi, .int .i64 0, .int .i64 0, .int .i64 0, .int .i64 0, .int .i64 0, .int .i64 0, .int .i64 (-1)] 41)) := Box.new _ 41 wr rfl
      have hb1 := hb0.trans ((below_alloc1 wr (.cells #[.int .i64 a.lo, .int .i64 a.hi, .int .i64 0, .int .i64 0, .int .i64 0, .int .i64 0, .int .i64 0, .int .i64 0, .int .i64 (-1)] 41)).mono hb0.size)
      obtain ⟨W1, hW⟩ : ∃ X, X = wr.alloc (.cells #[.int .i64 a.lo, .int .i64 a.hi, .int .i64 0, .int .i64 0, .int .i64 0, .int .i64 0, .int .i64 0, .int .i64 0, .int .i64 (-1)] 41) := ⟨_, rfl⟩
      obtain ⟨g1, hG⟩ : ∃ g, g = wr.heap.size := ⟨_, rfl⟩
      rw [← hW] at z0 hb1 ⊢
      rw [← hG] at z0 ⊢
      clear hW hG c0 c1 c2 c3 c4 c5 c6 c7 c8 c9 hb0
      have Z1 := Lib.hid z0
      have L1 := Lib.hid hb1
      clear z0 hb1
      obtain ⟨⟨c0, c1, c2, c3⟩, ⟨c4, c5, c6, c7⟩, c8, c9⟩ := ZB.cells Z1.out
      go_wp2_with fail
      refine (zSpan_any a _ _ _).mono ?_
      rintro e W2 ⟨rfl, hb2⟩
      rw [HA.out]
      have Z2 := Lib.hid (Z1.out.below hb2)
      have L2 := Lib.hid (L1.out.trans (hb2.mono L1.out.size))
      clear hb2 Z1 L1 c0 c1 c2 c3 c4 c5 c6 c7 c8 c9
      obtain ⟨⟨c0, c1, c2, c3⟩, ⟨c4, c5, c6, c7⟩, c8, c9⟩ := ZB.cells Z2.out
      have hr0 : spanB ⟨0, 0⟩ 0 1073741824 = true := by decide
      have hr1 : spanB ⟨0, 0⟩ (-500) 500 = true := by decide
      have hr2 : withinB (-1) (-1) (-1) = true := by decide
      have HR0 := Lib.hid hr0
      have HR1 := Lib.hid hr1
      have HR2 := Lib.hid hr2
      clear hr0 hr1 hr2
      go_wp2_with fail
      refine (zSpan_any ⟨0, 0⟩ _ _ _).mono ?_
      rintro e W3 ⟨rfl, hb2⟩
      rw [HR0.out]
      have Z3 := Lib.hid (Z2.out.below hb2)
      have L3 := Lib.hid (L2.out.trans (hb2.mono L2.out.size))
      clear hb2 Z2 L2 c0 c1 c2 c3 c4 c5 c6 c7 c8 c9
      obtain ⟨⟨c0, c1, c2, c3⟩, ⟨c4, c5, c6, c7⟩, c8, c9⟩ := ZB.cells Z3.out
      go_wp2_with fail
      refine (zSpan_any ⟨0, 0⟩ _ _ _).mono ?_
      rintro e W4 ⟨rfl, hb2⟩
      rw [HR0.out]
      have Z4 := Lib.hid (Z3.out.below hb2)
      have L4 := Lib.hid (L3.out.trans (hb2.mono L3.out.size))
      clear hb2 Z3 L3 c0 c1 c2 c3 c4 c5 c6 c7 c8 c9
      obtain ⟨⟨c0, c1, c2, c3⟩, ⟨c4, c5, c6, c7⟩, c8, c9⟩ := ZB.cells Z4.out
      go_wp2_with fail
      refine (zSpan_any ⟨0, 0⟩ _ _ _).mono ?_
      rintro e W5 ⟨rfl, hb2⟩
      rw [HR1.out]
      have Z5 := Lib.hid (Z4.out.below hb2)
      have L5 := Lib.hid (L4.out.trans (hb2.mono L4.out.size))
      clear hb2 Z4 L4 c0 c1 c2 c3 c4 c5 c6 c7 c8 c9
      obtain ⟨⟨c0, c1, c2, c3⟩, ⟨c4, c5, c6, c7⟩, c8, c9⟩ := ZB.cells Z5.out
      go_wp2_with fail
      refine (zWithin_any (-1) (-1) (-1) _).mono ?_
      rintro e W6 ⟨rfl, rfl⟩
      rw [HR2.out]
      go_wp2_with fail
      go_roundw
      case rel => exact ⟨1, by omega, by go_num, L5.out⟩
      case measure => simp [intOf]
    · obtain rfl : k = 1 := by omega
      have hr2 : withinB 1 1 12 = true := by decide
      go_wp2_with fail
      refine (zWithin_any 1 1 12 _).mono ?_
      rintro e W6 ⟨rfl, rfl⟩
      rw [hr2]
      go_wp2_with fail
      go_ret
      exact ⟨rfl, hb0⟩
end Go.Proofs.YtmeeknmjhlfnaaaDoor
