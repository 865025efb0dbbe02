/- The law's own functions: sample returns the test of the examples. -/
import Derived.Test.YtpognhnmkjpipaaDoorL1
namespace Go.Proofs.YtpognhnmkjpipaaDoor
open Go.RowKit
/-- the test of the examples lies at these -/
structure SmpAt (g1 g2 : Nat) (w : World) : Prop where
  u : SpnsAt w (some ⟨g1, 0, none⟩) 3 sU
  s : StpsAt w (some ⟨g2, 0, none⟩) 3 sS
theorem SmpAt.mono {g1 g2 : Nat} {w w' : World} (h : SmpAt g1 g2 w) (hb : Below w.heap.size w w') : SmpAt g1 g2 w' := ⟨h.u.mono hb, h.s.mono hb⟩
theorem smp_spans {g : Nat} {w : World} {ty : TypeId} (h : Box g #[.int .i64 0, .int .i64 5, .int .i64 0, .int .i64 5, .int .i64 0, .int .i64 5] ty w) : SpnsAt w (some ⟨g, 0, none⟩) 3 sU := fun i hi => by
  refine ⟨g, 0, rfl, h.lt, ?_, ?_⟩ <;> rcases (by omega : i = 0 ∨ i = 1 ∨ i = 2) with rfl | rfl | rfl <;> exact h.cell _ rfl
theorem smp_steps {g : Nat} {w : World} {ty : TypeId} (h : Box g #[.int .i64 0, .int .i64 40, .int .i64 45, .int .i64 1, .int .i64 38, .int .i64 44, .int .i64 3, .int .i64 0, .int .i64 6] ty w) : StpsAt w (some ⟨g, 0, none⟩) 3 sS := fun i hi => by
  refine ⟨g, 0, rfl, h.lt, ?_, ?_, ?_⟩ <;> rcases (by omega : i = 0 ∨ i = 1 ∨ i = 2) with rfl | rfl | rfl <;> exact h.cell _ rfl
set_option maxHeartbeats 4000000 in
theorem sample_any (w : World) :
    Calls Tryd.prog 28 #[] w fun e w' => (∃ g1 g2, e = .returned (smp.val (some ⟨g1, 0, none⟩) 3 (some ⟨g2, 0, none⟩) 3) ∧ SmpAt g1 g2 w' ∧ w.heap.size ≤ g1 ∧ w.heap.size ≤ g2) ∧ Below w.heap.size w w' := by
  go_enter Tryd.func28, Tryd.ntmps28
  go_wp2_with fail
  have hb0 := below_alloc1 w (.cells #[.slice none 0 0, .int .i64 0, .int .i64 0, .slice none 0 0] 25)
  have z0 := Box.new (g := w.heap.size) #[.slice none 0 0, .int .i64 0, .int .i64 0, .slice none 0 0] 25 w rfl
  obtain ⟨W0, hW0⟩ : ∃ X, X = w.alloc (.cells #[.slice none 0 0, .int .i64 0, .int .i64 0, .slice none 0 0] 25) := ⟨_, rfl⟩
  rw [← hW0] at hb0 z0 ⊢
  clear hW0
  refine (span_any 0 5 _).mono ?_
  rintro e w1 ⟨rfl, hb1⟩
  go_wp2_with fail
  refine (span_any 0 5 _).mono ?_
  rintro e w2 ⟨rfl, hb2⟩
  go_wp2_with fail
  refine (span_any 0 5 _).mono ?_
  rintro e w3 ⟨rfl, hb3⟩
  have z3 := ((z0.below hb1).below hb2).below hb3
  have hb03 := ((hb0.trans (hb1.mono hb0.size)).trans (hb2.mono (by have := hb0.size; have := hb1.size; omega))).trans (hb3.mono (by have := hb0.size; have := hb1.size; have := hb2.size; omega))
  clear hb0 hb1 hb2 hb3 z0
  go_wp2_with fail
  have zu := Box.new (g := w3.heap.size) #[.int .i64 0, .int .i64 5, .int .i64 0, .int .i64 5, .int .i64 0, .int .i64 5] 37 w3 rfl
  have z4 := z3.old (.cells #[.int .i64 0, .int .i64 5, .int .i64 0, .int .i64 5, .int .i64 0, .int .i64 5] 37)
  have hb4 := hb03.trans ((below_alloc1 w3 (.cells #[.int .i64 0, .int .i64 5, .int .i64 0, .int .i64 5, .int .i64 0, .int .i64 5] 37)).mono hb03.size)
  have hg1 := z3.lt
  obtain ⟨g1, hg⟩ : ∃ g, g = w3.heap.size := ⟨_, rfl⟩
  obtain ⟨W4, hW4⟩ : ∃ X, X = w3.alloc (.cells #[.int .i64 0, .int .i64 5, .int .i64 0, .int .i64 5, .int .i64 0, .int .i64 5] 37) := ⟨_, rfl⟩
  rw [← hW4] at zu z4 hb4 ⊢
  rw [← hg] at zu hg1 ⊢
  clear hW4 hg z3 hb03
  refine (span_any 40 45 _).mono ?_
  rintro e w5 ⟨rfl, hb5⟩
  go_wp2_with fail
  refine (span_any 38 44 _).mono ?_
  rintro e w6 ⟨rfl, hb6⟩
  go_wp2_with fail
  refine (span_any 0 6 _).mono ?_
  rintro e w7 ⟨rfl, hb7⟩
  have z7 := ((z4.below hb5).below hb6).below hb7
  have zu7 := ((zu.below hb5).below hb6).below hb7
  have hb47 := ((hb4.trans (hb5.mono hb4.size)).trans (hb6.mono (by have := hb4.size; have := hb5.size; omega))).trans (hb7.mono (by have := hb4.size; have := hb5.size; have := hb6.size; omega))
  clear hb4 hb5 hb6 hb7 zu z4
  have r0 := z7.cell 0 rfl
  have r1 := z7.cell 1 rfl
  have r2 := z7.cell 2 rfl
  have r3 := z7.cell 3 rfl
  have rl := z7.lt
  have f0 := z7.frozen 0
  have f1 := z7.frozen 1
  have f2 := z7.frozen 2
  have f3 := z7.frozen 3
  have hne : ¬ w.heap.size = w7.heap.size := by omega
  go_wp2_with fail
  have z8 := (((z7.set 0 (.slice (some ⟨g1, 0, none⟩) 3 3)).set 1 (.int .i64 1)).set 2 (.int .i64 20)).set 3 (.slice (some ⟨w7.heap.size, 0, none⟩) 3 3)
  have hng : g1 ≠ w.heap.size := by have := zu7.lt; omega
  have zu8 := (((zu7.other hng 0 (.slice (some ⟨g1, 0, none⟩) 3 3)).other hng 1 (.int .i64 1)).other hng 2 (.int .i64 20)).other hng 3 (.slice (some ⟨w7.heap.size, 0, none⟩) 3 3)
  have hb8 := (((hb47.setCell (p := ⟨w.heap.size, 0, none⟩) (Nat.le_refl _) (.slice (some ⟨g1, 0, none⟩) 3 3)).setCell (p := ⟨w.heap.size, 1, none⟩) (Nat.le_refl _) (.int .i64 1)).setCell (p := ⟨w.heap.size, 2, none⟩) (Nat.le_refl _) (.int .i64 20)).setCell (p := ⟨w.heap.size, 3, none⟩) (Nat.le_refl _) (.slice (some ⟨w7.heap.size, 0, none⟩) 3 3)
  have hs8 : ((((w7.setCell ⟨w.heap.size, 0, none⟩ (.slice (some ⟨g1, 0, none⟩) 3 3)).setCell ⟨w.heap.size, 1, none⟩ (.int .i64 1)).setCell ⟨w.heap.size, 2, none⟩ (.int .i64 20)).setCell ⟨w.heap.size, 3, none⟩ (.slice (some ⟨w7.heap.size, 0, none⟩) 3 3)).heap.size = w7.heap.size := by simp
  obtain ⟨W8, hW8⟩ : ∃ X, X = ((((w7.setCell ⟨w.heap.size, 0, none⟩ (.slice (some ⟨g1, 0, none⟩) 3 3)).setCell ⟨w.heap.size, 1, none⟩ (.int .i64 1)).setCell ⟨w.heap.size, 2, none⟩ (.int .i64 20)).setCell ⟨w.heap.size, 3, none⟩ (.slice (some ⟨w7.heap.size, 0, none⟩) 3 3)) := ⟨_, rfl⟩
  rw [← hW8] at z8 zu8 hb8 hs8 ⊢
  clear hW8
  have zs := Box.new (g := w7.heap.size) #[.int .i64 0, .int .i64 40, .int .i64 45, .int .i64 1, .int .i64 38, .int .i64 44, .int .i64 3, .int .i64 0, .int .i64 6] 49 W8 hs8.symm
  have z9 := z8.old (.cells #[.int .i64 0, .int .i64 40, .int .i64 45, .int .i64 1, .int .i64 38, .int .i64 44, .int .i64 3, .int .i64 0, .int .i64 6] 49)
  have zu9 := zu8.old (.cells #[.int .i64 0, .int .i64 40, .int .i64 45, .int .i64 1, .int .i64 38, .int .i64 44, .int .i64 3, .int .i64 0, .int .i64 6] 49)
  have hb9 := hb8.trans ((below_alloc1 W8 (.cells #[.int .i64 0, .int .i64 40, .int .i64 45, .int .i64 1, .int .i64 38, .int .i64 44, .int .i64 3, .int .i64 0, .int .i64 6] 49)).mono hb8.size)
  have v0 := z9.cell 0 (v := .slice (some ⟨g1, 0, none⟩) 3 3) (by simp)
  have v1 := z9.cell 1 (v := .int .i64 1) (by simp)
  have v2 := z9.cell 2 (v := .int .i64 20) (by simp)
  have v3 := z9.cell 3 (v := .slice (some ⟨w7.heap.size, 0, none⟩) 3 3) (by simp)
  exact bodyPost_ret (v := smp.val (some ⟨g1, 0, none⟩) 3 (some ⟨w7.heap.size, 0, none⟩) 3) (by simp [results, Tryd.results28, go_sem, v0, v1, v2, v3]; decide) rfl ⟨⟨g1, w7.heap.size, rfl, ⟨smp_spans zu9, smp_steps zs⟩, by omega, by omega⟩, hb9⟩
end Go.Proofs.YtpognhnmkjpipaaDoor
