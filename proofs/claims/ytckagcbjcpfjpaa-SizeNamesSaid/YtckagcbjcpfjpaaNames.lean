/- The walk of SizeNames, given what alive comes to. -/
import Derived.Test.YtckagcbjcpfjpaaEnd
import Derived.Test.YtckagcbjcpfjpaaMono
import Derived.Deep.RegionHeld3
import Derived.Deep.RegionWith
import Derived.Deep.DeepCutAuto
namespace Go.Proofs.Ytckagcbjcpfjpaa
open Go.RowKit
/-- the example's house in a box -/
def HBox (hb : Nat) (head drip : Int) (tb rb : Nat) (w : World) : Prop :=
  w.cell? ⟨hb, 0, none⟩ = some (.int .i64 head) ∧ w.cell? ⟨hb, 1, none⟩ = some (.int .i64 drip) ∧ w.cell? ⟨hb, 2, none⟩ = some (.slice (some ⟨tb, 0, none⟩) 3 3) ∧ w.cell? ⟨hb, 3, none⟩ = some (.slice (some ⟨rb, 0, none⟩) 1 1) ∧ w.frozen? ⟨hb, 0, none⟩ = false ∧ w.frozen? ⟨hb, 1, none⟩ = false
theorem HBox.same {hb : Nat} {head drip : Int} {tb rb : Nat} {A B : World} (h : HBox hb head drip tb rb A) (hs : Same (fun _ => True) A B) : HBox hb head drip tb rb B := by
  obtain ⟨a, b, c, d, e, f⟩ := h
  exact ⟨hs.cell_some a trivial, hs.cell_some b trivial, hs.cell_some c trivial, hs.cell_some d trivial, hs.frozen_some a e trivial, hs.frozen_some b f trivial⟩
theorem HBox.below {hb : Nat} {head drip : Int} {tb rb : Nat} {A B : World} (h : HBox hb head drip tb rb A) (hs : Below A.heap.size A B) : HBox hb head drip tb rb B := h.same (Same.of_below hs fun _ hk _ => hk)
theorem HBox.set0 {hb : Nat} {head drip v : Int} {tb rb : Nat} {A : World} (h : HBox hb head drip tb rb A) : HBox hb v drip tb rb (A.setCell ⟨hb, 0, none⟩ (.int .i64 v)) := by
  obtain ⟨a, b, c, d, e, f⟩ := h
  exact ⟨by simp [go_sem, a], by simp [go_sem, b], by simp [go_sem, c], by simp [go_sem, d], by simp [go_sem, e], by simp [go_sem, f]⟩
theorem HBox.set1 {hb : Nat} {head drip v : Int} {tb rb : Nat} {A : World} (h : HBox hb head drip tb rb A) : HBox hb head v tb rb (A.setCell ⟨hb, 1, none⟩ (.int .i64 v)) := by
  obtain ⟨a, b, c, d, e, f⟩ := h
  exact ⟨by simp [go_sem, a], by simp [go_sem, b], by simp [go_sem, c], by simp [go_sem, d], by simp [go_sem, e], by simp [go_sem, f]⟩
theorem ex2_starved1 : (exH 400 12).starvedR (exM 1) = (0, false, 4) := by decide +kernel
theorem ex2_choose1 : (exH 400 12).chooseR 1 exM = (0, 10) := by decide +kernel
theorem ex2_choose3 : (exH 400 8).chooseR 3 exM = (0, 11) := by decide +kernel
theorem ex2_starved2 : (exH 250 8).starvedR (exM 1) = (6, true, 0) := by decide +kernel
theorem ex2_full : (exH 200 8).fullB (sizeOf 200 2199) = true ∧ (exH 200 8).fullB (sizeOf 200 2198) = false ∧ (exH 150 8).fullB (sizeOf 200 999999) = false := by decide +kernel
theorem least_ex1 {r c : Nat} (hl : if (exH 200 8).valid then (if withinB 200 0 10000 then ((c = 4 ∧ r = 0 ∧ (exH 200 8).fullB (sizeOf 200 999999) = false) ∨ (c = 0 ∧ 1 ≤ r ∧ r ≤ 1000000 ∧ (exH 200 8).fullB (sizeOf 200 (r - 1)) = true ∧ (1 < r → (exH 200 8).fullB (sizeOf 200 (r - 2)) = false))) else c = 2 ∧ r = 0) else c = 1 ∧ r = 0) : r = 2200 ∧ c = 0 := by
  rw [if_pos (ex_valid _ _ (by decide) (by decide)), if_pos (by decide)] at hl
  rcases hl with ⟨h1, h2, h3⟩ | ⟨h1, h2, h3, h4, h5⟩
  · have := fullB_mono (exH 200 8) 200 (by decide) (i := 2199) (j := 999999) (by decide) ex2_full.1
    rw [h3] at this; cases this
  · exact ⟨least_eq (exH 200 8) 200 (by decide) h4 h5 h2 (by decide) ex2_full.1 (fun _ => ex2_full.2.1), h1⟩
theorem least_ex2 {r c : Nat} (hl : if (exH 150 8).valid then (if withinB 200 0 10000 then ((c = 4 ∧ r = 0 ∧ (exH 150 8).fullB (sizeOf 200 999999) = false) ∨ (c = 0 ∧ 1 ≤ r ∧ r ≤ 1000000 ∧ (exH 150 8).fullB (sizeOf 200 (r - 1)) = true ∧ (1 < r → (exH 150 8).fullB (sizeOf 200 (r - 2)) = false))) else c = 2 ∧ r = 0) else c = 1 ∧ r = 0) : r = 0 ∧ c = 4 := by
  rw [if_pos (ex_valid _ _ (by decide) (by decide)), if_pos (by decide)] at hl
  rcases hl with ⟨h1, h2, h3⟩ | ⟨h1, h2, h3, h4, h5⟩
  · exact ⟨h2, h1⟩
  · have := fullB_mono (exH 150 8) 200 (by decide) (i := r - 1) (j := 999999) (by omega) h4
    rw [ex2_full.2.2] at this; cases this
theorem MetersAt.less {w : World} {oa : Option Addr} {n m : Nat} {t : Nat → Meter} (h : MetersAt w oa n t) (hm : m ≤ n) : MetersAt w oa m t := fun i hi => h i (by omega)
set_option maxRecDepth 100000 in
set_option maxHeartbeats 8000000 in
theorem names_of (hal : ∀ w, Calls Try.prog 13 #[] w (TrueEnd w)) (w : World) : Calls Try.prog 5 #[] w (TrueEnd w) := by
  go_enter Try.func5, Try.ntmps5
  go_wp2_with fail
  refine (sample_any _).mono ?_
  rintro e w1 ⟨tb, rb, mb, rfl, hb1, n1, n2, n3, hT, hR, hM⟩
  have HT := Lib.hid hT
  have HR := Lib.hid hR
  have HM := Lib.hid hM
  clear hT hR hM
  have hs1 := hb1.size
  have hbA := below_alloc1 w1 (.cells #[.int .i64 400, .int .i64 12, .slice (some ⟨tb, 0, none⟩) 3 3, .slice (some ⟨rb, 0, none⟩) 1 1] 25)
  have hx : HBox w1.heap.size 400 12 tb rb (w1.alloc (.cells #[.int .i64 400, .int .i64 12, .slice (some ⟨tb, 0, none⟩) 3 3, .slice (some ⟨rb, 0, none⟩) 1 1] 25)) := ⟨by simp [go_sem], by simp [go_sem], by simp [go_sem], by simp [go_sem], by simp [go_sem], by simp [go_sem]⟩
  have hsA : (w1.alloc (.cells #[.int .i64 400, .int .i64 12, .slice (some ⟨tb, 0, none⟩) 3 3, .slice (some ⟨rb, 0, none⟩) 1 1] 25)).heap.size = w1.heap.size + 1 := by simp
  go_wp2_with fail
  obtain ⟨W2, hW2⟩ : ∃ X, X = w1.alloc (.cells #[.int .i64 400, .int .i64 12, .slice (some ⟨tb, 0, none⟩) 3 3, .slice (some ⟨rb, 0, none⟩) 1 1] 25) := ⟨_, rfl⟩
  rw [← hW2] at hbA hx hsA ⊢
  clear hW2
  obtain ⟨b', off', hbo', hlt', m0, m1, m2, m3⟩ := (HM.out.mono hbA) 1 (by omega)
  cases hbo'
  simp only [Nat.one_mul, Nat.zero_add, exM] at m0 m1 m2 m3
  go_cut [3, 4, 5] (fun s3 s4 s5 wx => s3 = .int .i64 0 ∧ s4 = .bool false ∧ s5 = .int .i64 4 ∧ Below W2.heap.size W2 wx)
  case first =>
    obtain ⟨r0, r1, r2, r3, r4, r5⟩ := hx
    go_region_with (go_at_call 16; refine (Starved_any (exH 400 12) (exM 1) (some ⟨tb, 0, none⟩) (some ⟨rb, 0, none⟩) 3 1 _ (by decide) (by decide) (HT.out.mono hbA.drew) (HR.out.mono hbA.drew)).mono ?_; rintro e w4 ⟨rfl, hb4⟩)
    all_goals
      rw [ex2_starved1]
      go_wp2_with fail
      go_meet
      exact ⟨rfl, rfl, rfl, (Below.refl _ _).drew.trans hb4⟩
  case rest =>
  obtain ⟨rfl, rfl, rfl, hb4⟩ := hcut
  have hs4 := hb4.size
  have hx := hx.below hb4
  have hbA := hbA.trans (hb4.mono (by omega))
  clear hb4 m0 m1 m2 m3 hlt'
  go_wp2_with fail
  go_cut [6, 7] (fun s6 s7 wx => s6 = .int .i64 0 ∧ s7 = .int .i64 10 ∧ Below wc.heap.size wc wx)
  case first =>
    obtain ⟨r0, r1, r2, r3, r4, r5⟩ := hx
    go_region_with (go_at_call 18; refine (Choose_any (exH 400 12) (some ⟨tb, 0, none⟩) (some ⟨rb, 0, none⟩) (some ⟨mb, 0, none⟩) 3 1 1 3 exM _ (by decide) (by decide) (by decide) (HT.out.mono hbA.drew) (HR.out.mono hbA.drew) (MetersAt.less (HM.out.mono hbA.drew) (by decide))).mono ?_; rintro e w4 ⟨rfl, hb4⟩)
    all_goals
      rw [ex2_choose1]
      go_wp2_with fail
      go_meet
      exact ⟨rfl, rfl, (Below.refl _ _).drew.trans hb4⟩
  case rest =>
  obtain ⟨rfl, rfl, hb5⟩ := hcut
  have hs5 := hb5.size
  have hx := hx.below hb5
  have hbA := hbA.trans (hb5.mono (by omega))
  clear hb5
  obtain ⟨r0, r1, r2, r3, r4, r5⟩ := hx
  go_wp2_with fail
  have hx : HBox w1.heap.size 400 8 tb rb (wc.setCell ⟨w1.heap.size, 1, none⟩ (.int .i64 8)) := HBox.set1 ⟨r0, r1, r2, r3, r4, r5⟩
  have hbB := hbA.setCell (p := ⟨w1.heap.size, 1, none⟩) (Nat.le_refl _) (.int .i64 8)
  have hsB : (wc.setCell ⟨w1.heap.size, 1, none⟩ (.int .i64 8)).heap.size = wc.heap.size := setCell_size _ _ _
  obtain ⟨W3, hW3⟩ : ∃ X, X = wc.setCell ⟨w1.heap.size, 1, none⟩ (.int .i64 8) := ⟨_, rfl⟩
  rw [← hW3] at hbB hx hsB ⊢
  clear hW3 r0 r1 r2 r3 r4 r5 hbA
  obtain ⟨r0, r1, r2, r3, r4, r5⟩ := hx
  go_wp2_with fail
  refine (Choose_any (exH 400 8) (some ⟨tb, 0, none⟩) (some ⟨rb, 0, none⟩) (some ⟨mb, 0, none⟩) 3 1 3 3 exM _ (by decide) (by decide) (by decide) (HT.out.mono hbB) (HR.out.mono hbB) (HM.out.mono hbB)).mono ?_
  rintro e w5 ⟨rfl, hb5⟩
  rw [ex2_choose3]
  have hx := (show HBox w1.heap.size 400 8 tb rb W3 from ⟨r0, r1, r2, r3, r4, r5⟩).below hb5
  have hs5' := hb5.size
  have hbC := hbB.trans (hb5.mono (by omega))
  clear hb5 hbB r0 r1 r2 r3 r4 r5
  obtain ⟨r0, r1, r2, r3, r4, r5⟩ := hx
  go_wp2_with fail
  have hx : HBox w1.heap.size 250 8 tb rb (w5.setCell ⟨w1.heap.size, 0, none⟩ (.int .i64 250)) := HBox.set0 ⟨r0, r1, r2, r3, r4, r5⟩
  have hbD := hbC.setCell (p := ⟨w1.heap.size, 0, none⟩) (Nat.le_refl _) (.int .i64 250)
  have hsD : (w5.setCell ⟨w1.heap.size, 0, none⟩ (.int .i64 250)).heap.size = w5.heap.size := setCell_size _ _ _
  obtain ⟨W4, hW4⟩ : ∃ X, X = w5.setCell ⟨w1.heap.size, 0, none⟩ (.int .i64 250) := ⟨_, rfl⟩
  rw [← hW4] at hbD hx hsD ⊢
  clear hW4 r0 r1 r2 r3 r4 r5 hbC
  obtain ⟨b', off', hbo', hlt', m0, m1, m2, m3⟩ := (HM.out.mono hbD) 1 (by omega)
  cases hbo'
  simp only [Nat.one_mul, Nat.zero_add, exM] at m0 m1 m2 m3
  go_cut [10, 11, 12] (fun s10 s11 s12 wx => s10 = .int .i64 6 ∧ s11 = .bool true ∧ s12 = .int .i64 0 ∧ Below W4.heap.size W4 wx)
  case first =>
    obtain ⟨r0, r1, r2, r3, r4, r5⟩ := hx
    go_region_with (go_at_call 16; refine (Starved_any (exH 250 8) (exM 1) (some ⟨tb, 0, none⟩) (some ⟨rb, 0, none⟩) 3 1 _ (by decide) (by decide) (HT.out.mono hbD.drew) (HR.out.mono hbD.drew)).mono ?_; rintro e w4 ⟨rfl, hb4⟩)
    all_goals
      rw [ex2_starved2]
      go_wp2_with fail
      go_meet
      exact ⟨rfl, rfl, rfl, (Below.refl _ _).drew.trans hb4⟩
  case rest =>
  obtain ⟨rfl, rfl, rfl, hb6⟩ := hcut
  have hs6 := hb6.size
  have hx := hx.below hb6
  have hbE := hbD.trans (hb6.mono (by omega))
  clear hb6 m0 m1 m2 m3 hlt' hbD
  obtain ⟨r0, r1, r2, r3, r4, r5⟩ := hx
  go_wp2_with fail
  have hx : HBox w1.heap.size 200 8 tb rb (wc.setCell ⟨w1.heap.size, 0, none⟩ (.int .i64 200)) := HBox.set0 ⟨r0, r1, r2, r3, r4, r5⟩
  have hbF := hbE.setCell (p := ⟨w1.heap.size, 0, none⟩) (Nat.le_refl _) (.int .i64 200)
  have hsF : (wc.setCell ⟨w1.heap.size, 0, none⟩ (.int .i64 200)).heap.size = wc.heap.size := setCell_size _ _ _
  obtain ⟨W5, hW5⟩ : ∃ X, X = wc.setCell ⟨w1.heap.size, 0, none⟩ (.int .i64 200) := ⟨_, rfl⟩
  rw [← hW5] at hbF hx hsF ⊢
  clear hW5 r0 r1 r2 r3 r4 r5 hbE
  obtain ⟨r0, r1, r2, r3, r4, r5⟩ := hx
  go_wp2_with fail
  refine (Least_any (exH 200 8) 200 (some ⟨tb, 0, none⟩) (some ⟨rb, 0, none⟩) 3 1 _ (by decide) (by decide) (HT.out.mono hbF) (HR.out.mono hbF)).mono ?_
  rintro e w6 ⟨r, c, rfl, hb7, hl⟩
  obtain ⟨rfl, rfl⟩ := least_ex1 hl
  clear hl
  have hx := (show HBox w1.heap.size 200 8 tb rb W5 from ⟨r0, r1, r2, r3, r4, r5⟩).below hb7
  have hs7 := hb7.size
  have hbG := hbF.trans (hb7.mono (by omega))
  clear hb7 hbF r0 r1 r2 r3 r4 r5
  obtain ⟨r0, r1, r2, r3, r4, r5⟩ := hx
  go_wp2_with fail
  have hx : HBox w1.heap.size 150 8 tb rb (w6.setCell ⟨w1.heap.size, 0, none⟩ (.int .i64 150)) := HBox.set0 ⟨r0, r1, r2, r3, r4, r5⟩
  have hbH := hbG.setCell (p := ⟨w1.heap.size, 0, none⟩) (Nat.le_refl _) (.int .i64 150)
  have hsH : (w6.setCell ⟨w1.heap.size, 0, none⟩ (.int .i64 150)).heap.size = w6.heap.size := setCell_size _ _ _
  obtain ⟨W6, hW6⟩ : ∃ X, X = w6.setCell ⟨w1.heap.size, 0, none⟩ (.int .i64 150) := ⟨_, rfl⟩
  rw [← hW6] at hbH hx hsH ⊢
  clear hW6 r0 r1 r2 r3 r4 r5 hbG
  obtain ⟨r0, r1, r2, r3, r4, r5⟩ := hx
  go_wp2_with fail
  refine (Least_any (exH 150 8) 200 (some ⟨tb, 0, none⟩) (some ⟨rb, 0, none⟩) 3 1 _ (by decide) (by decide) (HT.out.mono hbH) (HR.out.mono hbH)).mono ?_
  rintro e w7 ⟨r, c, rfl, hb8, hl⟩
  obtain ⟨rfl, rfl⟩ := least_ex2 hl
  clear hl
  have hs8 := hb8.size
  have hbI := hb1.trans ((hbH.trans (hb8.mono (by omega))).mono (by omega))
  clear hb8 hbH r0 r1 r2 r3 r4 r5
  go_wp2_with fail
  refine (hal _).mono ?_
  rintro e w8 ⟨rfl, hb9⟩
  have hs9 := hbI.size
  go_wp2
  go_ret
  exact ⟨rfl, hbI.trans (hb9.mono (by omega))⟩
end Go.Proofs.Ytckagcbjcpfjpaa
