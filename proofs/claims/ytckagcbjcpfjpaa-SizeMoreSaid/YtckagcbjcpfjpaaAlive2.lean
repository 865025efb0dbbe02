/- alive returns true. -/
import Derived.Test.YtckagcbjcpfjpaaEnd
import Derived.Test.YtckagcbjcpfjpaaMono
import Derived.Deep.RegionHeld3
import Derived.Deep.RegionWith
import Derived.Deep.DeepCutAuto
namespace Go.Proofs.Ytckagcbjcpfjpaa
open Go.RowKit
/-- the example's house in a box, and the peak's span in another -/
def ExBox (hb fb : Nat) (drip : Int) (tb rb : Nat) (w : World) : Prop :=
  (w.cell? ⟨hb, 0, none⟩ = some (.int .i64 400) ∧ w.cell? ⟨hb, 1, none⟩ = some (.int .i64 drip) ∧ w.cell? ⟨hb, 2, none⟩ = some (.slice (some ⟨tb, 0, none⟩) 3 3) ∧ w.cell? ⟨hb, 3, none⟩ = some (.slice (some ⟨rb, 0, none⟩) 1 1)) ∧
  w.cell? ⟨fb, 0, none⟩ = some (.int .i64 800) ∧ w.cell? ⟨fb, 1, none⟩ = some (.int .i64 1100) ∧ w.frozen? ⟨hb, 1, none⟩ = false
theorem ExBox.same {hb fb : Nat} {drip : Int} {tb rb : Nat} {p : Nat → Prop} {A B : World} (h : ExBox hb fb drip tb rb A) (hs : Same p A B) (h1 : p hb) (h2 : p fb) : ExBox hb fb drip tb rb B := by
  obtain ⟨⟨a, b, c, d⟩, e, f, g⟩ := h
  exact ⟨⟨hs.cell_some a h1, hs.cell_some b h1, hs.cell_some c h1, hs.cell_some d h1⟩, hs.cell_some e h2, hs.cell_some f h2, hs.frozen_some b g h1⟩
set_option maxRecDepth 100000 in
set_option maxHeartbeats 16000000 in
theorem alive_any (w : World) : Calls Try.prog 13 #[] w fun e w' => TrueEnd w e w' := by
  go_enter Try.func13, Try.ntmps13
  go_wp2_with fail
  refine (sample_any _).mono ?_
  rintro e w1 ⟨tb, rb, mb, rfl, hb1, n1, n2, n3, hT, hR, hM⟩
  have HT := Lib.hid hT
  have HR := Lib.hid hR
  have HM := Lib.hid hM
  clear hT hR hM
  have hs1 := hb1.size
  go_wp2_with fail
  have hbA := below_alloc1 w1 (.cells #[.int .i64 400, .int .i64 12, .slice (some ⟨tb, 0, none⟩) 3 3, .slice (some ⟨rb, 0, none⟩) 1 1] 25)
  refine (peak_any (exH 400 12) (some ⟨tb, 0, none⟩) (some ⟨rb, 0, none⟩) 3 1 _ (by decide) (by decide) (HT.out.mono hbA) (HR.out.mono hbA) (ex_valid _ _ (by decide) (by decide))).mono ?_
  rintro e w2 ⟨rfl, hb2⟩
  rw [ex_peak]
  have hs2 := hb2.size
  simp only [World.size_alloc] at hs2
  have q0 : w2.cell? ⟨w1.heap.size, 0, none⟩ = some (.int .i64 400) := (hb2.cell (p := ⟨w1.heap.size, 0, none⟩) (by simp)).trans (by simp [go_sem])
  have q1 : w2.cell? ⟨w1.heap.size, 1, none⟩ = some (.int .i64 12) := (hb2.cell (p := ⟨w1.heap.size, 1, none⟩) (by simp)).trans (by simp [go_sem])
  have q2 : w2.cell? ⟨w1.heap.size, 2, none⟩ = some (.slice (some ⟨tb, 0, none⟩) 3 3) := (hb2.cell (p := ⟨w1.heap.size, 2, none⟩) (by simp)).trans (by simp [go_sem])
  have q3 : w2.cell? ⟨w1.heap.size, 3, none⟩ = some (.slice (some ⟨rb, 0, none⟩) 1 1) := (hb2.cell (p := ⟨w1.heap.size, 3, none⟩) (by simp)).trans (by simp [go_sem])
  have q4 : w2.frozen? ⟨w1.heap.size, 1, none⟩ = false := (hb2.frozen (p := ⟨w1.heap.size, 1, none⟩) (by simp)).trans (by simp [go_sem])
  have hbB := hbA.trans (hb2.mono (by simp))
  clear hb2 hbA
  go_wp2_with fail
  have hbC := hbB.alloc (by omega) (.cells #[.int .i64 800, .int .i64 1100] 31)
  have hs3 : (w2.alloc (.cells #[.int .i64 800, .int .i64 1100] 31)).heap.size = w2.heap.size + 1 := by simp
  have u0 : (w2.alloc (.cells #[.int .i64 800, .int .i64 1100] 31)).cell? ⟨w2.heap.size, 0, none⟩ = some (.int .i64 800) := by simp [go_sem]
  have u1 : (w2.alloc (.cells #[.int .i64 800, .int .i64 1100] 31)).cell? ⟨w2.heap.size, 1, none⟩ = some (.int .i64 1100) := by simp [go_sem]
  have hS : Same (fun _ => True) w2 (w2.alloc (.cells #[.int .i64 800, .int .i64 1100] 31)) := (Same.refl _ _).alloc _
  have r0 := hS.cell_some q0 trivial
  have r1 := hS.cell_some q1 trivial
  have r2 := hS.cell_some q2 trivial
  have r3 := hS.cell_some q3 trivial
  have r4 := hS.frozen_some q1 q4 trivial
  obtain ⟨W3, hW3⟩ : ∃ X, X = w2.alloc (.cells #[.int .i64 800, .int .i64 1100] 31) := ⟨_, rfl⟩
  rw [← hW3] at hbC hs3 u0 u1 r0 r1 r2 r3 r4 ⊢
  clear hW3 hS q0 q1 q2 q3 q4 hbB
  obtain ⟨b', off', hbo', hlt', m0, m1, m2, m3⟩ := (HM.out.mono hbC) 0 (by omega)
  cases hbo'
  simp only [Nat.zero_mul, Nat.zero_add, exM] at m0 m1 m2 m3
  go_cut [6, 7, 8] (fun s6 s7 s8 wx => s6 = .int .i64 6 ∧ s7 = .bool false ∧ s8 = .int .i64 0 ∧ Below W3.heap.size W3 wx)
  case first =>
    go_region_with (go_at_call 16; refine (Starved_any (exH 400 12) (exM 0) (some ⟨tb, 0, none⟩) (some ⟨rb, 0, none⟩) 3 1 _ (by decide) (by decide) (HT.out.mono hbC.drew) (HR.out.mono hbC.drew)).mono ?_; rintro e w4 ⟨rfl, hb4⟩)
    all_goals
      rw [ex_starvedR]
      go_wp2_with fail
      go_meet
      exact ⟨rfl, rfl, rfl, (Below.refl _ _).drew.trans hb4⟩
  case rest =>
    obtain ⟨rfl, rfl, rfl, hb4⟩ := hcut
    have hx : ExBox w1.heap.size w2.heap.size 12 tb rb W3 := ⟨⟨r0, r1, r2, r3⟩, u0, u1, r4⟩
    clear r0 r1 r2 r3 r4 u0 u1 m0 m1 m2 m3
    have hx4 := hx.same (p := fun _ => True) (Same.of_below hb4 fun k hk _ => hk) trivial trivial
    have hbD := hbC.trans (hb4.mono (by omega))
    have hs4 := hb4.size
    clear hx hb4 hbC
    obtain ⟨⟨r0, r1, r2, r3⟩, u0, u1, r4⟩ := hx4
    go_wp2_with fail
    refine (Choose_any (exH 400 12) (some ⟨tb, 0, none⟩) (some ⟨rb, 0, none⟩) (some ⟨mb, 0, none⟩) 3 1 3 3 exM _ (by decide) (by decide) (by decide) (HT.out.mono hbD) (HR.out.mono hbD) (HM.out.mono hbD)).mono ?_
    rintro e w5 ⟨rfl, hb5⟩
    rw [ex_choose]
    have hx5 := (show ExBox w1.heap.size w2.heap.size 12 tb rb wc from ⟨⟨r0, r1, r2, r3⟩, u0, u1, r4⟩).same (p := fun _ => True) (Same.of_below hb5 fun k hk _ => hk) trivial trivial
    have hbE := hbD.trans (hb5.mono (by omega))
    have hs5 := hb5.size
    clear hb5 hbD r0 r1 r2 r3 u0 u1 r4
    obtain ⟨⟨r0, r1, r2, r3⟩, u0, u1, r4⟩ := hx5
    go_wp2_with fail
    refine (Least_any (exH 400 12) 200 (some ⟨tb, 0, none⟩) (some ⟨rb, 0, none⟩) 3 1 _ (by decide) (by decide) (HT.out.mono hbE) (HR.out.mono hbE)).mono ?_
    rintro e w6 ⟨r, c, rfl, hb6, hl⟩
    have hrc : r = 1100 ∧ c = 0 := by
      rw [if_pos (ex_valid _ _ (by decide) (by decide)), if_pos (by decide)] at hl
      rcases hl with ⟨h1, h2, h3⟩ | ⟨h1, h2, h3, h4, h5⟩
      · have := fullB_mono (exH 400 12) 200 (by decide) (i := 1099) (j := 999999) (by decide) ex_full.1
        rw [h3] at this; cases this
      · exact ⟨least_eq (exH 400 12) 200 (by decide) h4 h5 h2 (by decide) ex_full.1 (fun _ => ex_full.2), h1⟩
    obtain ⟨rfl, rfl⟩ := hrc
    clear hl
    have hx6 := (show ExBox w1.heap.size w2.heap.size 12 tb rb w5 from ⟨⟨r0, r1, r2, r3⟩, u0, u1, r4⟩).same (p := fun _ => True) (Same.of_below hb6 fun k hk _ => hk) trivial trivial
    have hbF := hbE.trans (hb6.mono (by omega))
    have hs6 := hb6.size
    clear hb6 hbE r0 r1 r2 r3 u0 u1 r4
    obtain ⟨⟨r0, r1, r2, r3⟩, u0, u1, r4⟩ := hx6
    go_wp2_with fail
    have hbG := hbF.setCell (p := ⟨w1.heap.size, 1, none⟩) (Nat.le_refl _) (.int .i64 8)
    refine (Pair_any (exH 400 8) (some ⟨tb, 0, none⟩) (some ⟨rb, 0, none⟩) (some ⟨mb, 0, none⟩) 3 1 3 3 exM _ (by decide) (by decide) (by decide) (HT.out.mono hbG) (HR.out.mono hbG) (HM.out.mono hbG)).mono ?_
    rintro e w7 ⟨rfl, hb7⟩
    rw [ex_pair]
    have hs7 := hb7.size
    rw [setCell_size] at hs7
    have hne : w2.heap.size ≠ w1.heap.size := by omega
    have v0 : w7.cell? ⟨w2.heap.size, 0, none⟩ = some (.int .i64 800) := (hb7.cell (p := ⟨w2.heap.size, 0, none⟩) (by rw [setCell_size]; dsimp only; omega)).trans (by simp [go_sem, u0])
    have v1 : w7.cell? ⟨w2.heap.size, 1, none⟩ = some (.int .i64 1100) := (hb7.cell (p := ⟨w2.heap.size, 1, none⟩) (by rw [setCell_size]; dsimp only; omega)).trans (by simp [go_sem, u1])
    have hbH := hbG.trans (hb7.mono (by rw [setCell_size]; omega))
    clear hb7 hbG hbF r0 r1 r2 r3 u0 u1 r4
    go_wp2_with fail
    go_region_held3 (fun w' => w'.cell? ⟨w2.heap.size, 0, none⟩ = some (.int .i64 800) ∧ w'.cell? ⟨w2.heap.size, 1, none⟩ = some (.int .i64 1100)) (first | go_keep) (first | (go_at_call 34; refine (span_any _ _ _).mono ?_; rintro e w8 ⟨rfl, rfl⟩))
    go_wp2
    go_ret
    exact ⟨rfl, (hb1.trans (hbH.mono (by omega))).drew.alloc (by simp; omega) _⟩
end Go.Proofs.Ytckagcbjcpfjpaa
