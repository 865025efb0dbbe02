/- TopNight's awake10: the results that the document fixes. -/
import Derived.Test.YtmeeknmjhlfnaaaDoorZ2
namespace Go.Proofs.YtmeeknmjhlfnaaaDoor
open Go.RowKit
def smpT : Tst := ⟨3, fun _ => ⟨0, 5⟩, 1, 20, 1, fun _ => ⟨0, ⟨40, 45⟩⟩⟩
theorem smpT_all : smpT.leakR 2 = ⟨25, 45⟩ ∧ smpT.leakErr 2 = 0 := by decide
set_option maxRecDepth 100000 in
set_option maxHeartbeats 4000000 in
theorem awake10_any (w : World) (hT : TabAt 1 Lib.deBruijn64tab w) (h1 : 1 < w.heap.size) :
    Calls Tryd.prog 5 #[] w fun e w' => e = .returned (.bool true) ∧ Below w.heap.size w w' := by
  have HT := Lib.hid hT
  clear hT
  go_enter Tryd.func5, Tryd.ntmps5
  go_upto_region 3 with fail
  have hb0 : Below w.heap.size w ((((w.alloc (.cells #[.int .i64 0, .int .i64 5] 34)).alloc (.cells #[.int .i64 0, .int .i64 5, .int .i64 0, .int .i64 5, .int .i64 0, .int .i64 5] 34)).alloc (.cells #[.int .i64 0, .int .i64 40, .int .i64 45] 36)).alloc (.cells #[.slice (some ⟨w.heap.size + 1, 0, none⟩) 3 3, .int .i64 1, .int .i64 20, .slice (some ⟨w.heap.size + 1 + 1, 0, none⟩) 1 1] 25)) := (by repeat' (first | exact Below.refl _ _ | assumption | apply below_drewN | apply Below.drew | (refine Below.alloc ?_ ?_ _) | (refine Below.setCell ?_ ?_ _) | (simp; done) | (simp; omega) | omega))
  have zu : Box (w.heap.size + 1) #[.int .i64 0, .int .i64 5, .int .i64 0, .int .i64 5, .int .i64 0, .int .i64 5] 34 ((((w.alloc (.cells #[.int .i64 0, .int .i64 5] 34)).alloc (.cells #[.int .i64 0, .int .i64 5, .int .i64 0, .int .i64 5, .int .i64 0, .int .i64 5] 34)).alloc (.cells #[.int .i64 0, .int .i64 40, .int .i64 45] 36)).alloc (.cells #[.slice (some ⟨w.heap.size + 1, 0, none⟩) 3 3, .int .i64 1, .int .i64 20, .slice (some ⟨w.heap.size + 1 + 1, 0, none⟩) 1 1] 25)) := ((Box.new _ 34 _ (by simp)).old _).old _
  have zs : Box (w.heap.size + 1 + 1) #[.int .i64 0, .int .i64 40, .int .i64 45] 36 ((((w.alloc (.cells #[.int .i64 0, .int .i64 5] 34)).alloc (.cells #[.int .i64 0, .int .i64 5, .int .i64 0, .int .i64 5, .int .i64 0, .int .i64 5] 34)).alloc (.cells #[.int .i64 0, .int .i64 40, .int .i64 45] 36)).alloc (.cells #[.slice (some ⟨w.heap.size + 1, 0, none⟩) 3 3, .int .i64 1, .int .i64 20, .slice (some ⟨w.heap.size + 1 + 1, 0, none⟩) 1 1] 25)) := (Box.new _ 36 _ (by simp)).old _
  have zt : Box (w.heap.size + 1 + 1 + 1) #[.slice (some ⟨w.heap.size + 1, 0, none⟩) 3 3, .int .i64 1, .int .i64 20, .slice (some ⟨w.heap.size + 1 + 1, 0, none⟩) 1 1] 25 ((((w.alloc (.cells #[.int .i64 0, .int .i64 5] 34)).alloc (.cells #[.int .i64 0, .int .i64 5, .int .i64 0, .int .i64 5, .int .i64 0, .int .i64 5] 34)).alloc (.cells #[.int .i64 0, .int .i64 40, .int .i64 45] 36)).alloc (.cells #[.slice (some ⟨w.heap.size + 1, 0, none⟩) 3 3, .int .i64 1, .int .i64 20, .slice (some ⟨w.heap.size + 1 + 1, 0, none⟩) 1 1] 25)) := Box.new _ 25 _ (by simp)
  obtain ⟨X0, hW⟩ : ∃ X, X = ((((w.alloc (.cells #[.int .i64 0, .int .i64 5] 34)).alloc (.cells #[.int .i64 0, .int .i64 5, .int .i64 0, .int .i64 5, .int .i64 0, .int .i64 5] 34)).alloc (.cells #[.int .i64 0, .int .i64 40, .int .i64 45] 36)).alloc (.cells #[.slice (some ⟨w.heap.size + 1, 0, none⟩) 3 3, .int .i64 1, .int .i64 20, .slice (some ⟨w.heap.size + 1 + 1, 0, none⟩) 1 1] 25)) := ⟨_, rfl⟩
  rw [← hW] at hb0 zu zs zt ⊢
  clear hW
  obtain ⟨g3, hG3⟩ : ∃ g, g = w.heap.size + 1 + 1 + 1 := ⟨_, rfl⟩
  obtain ⟨g2, hG2⟩ : ∃ g, g = w.heap.size + 1 + 1 := ⟨_, rfl⟩
  obtain ⟨g1, hG1⟩ : ∃ g, g = w.heap.size + 1 := ⟨_, rfl⟩
  rw [← hG3] at zt ⊢
  rw [← hG2] at zs zt ⊢
  rw [← hG1] at zu zt ⊢
  clear hG1 hG2 hG3
  have hU : SpnsAt X0 (some ⟨g1, 0, none⟩) 3 (fun _ => ⟨0, 5⟩) := fun i hi => by
    refine ⟨g1, 0, rfl, zu.lt, ?_, ?_⟩ <;> rcases (by omega : i = 0 ∨ i = 1 ∨ i = 2) with rfl | rfl | rfl <;> exact zu.cell _ rfl
  have hS : StpsAt X0 (some ⟨g2, 0, none⟩) 1 (fun _ => ⟨0, ⟨40, 45⟩⟩) := fun i hi => by
    obtain rfl : i = 0 := by omega
    exact ⟨g2, 0, rfl, zs.lt, zs.cell _ rfl, zs.cell _ rfl, zs.cell _ rfl⟩
  have M0 := Lib.hid (show Mem smpT (some ⟨g1, 0, none⟩) (some ⟨g2, 0, none⟩) X0 from ⟨hU, hS, fun j hj => (hb0.cell (p := ⟨1, j, none⟩) h1).trans (HT.out j hj), Nat.lt_of_lt_of_le h1 hb0.size⟩)
  have L0 := Lib.hid hb0
  have c0 := zt.cell 0 (v := .slice (some ⟨g1, 0, none⟩) 3 3) rfl
  have c1 := zt.cell 1 (v := .int .i64 1) rfl
  have c2 := zt.cell 2 (v := .int .i64 20) rfl
  have c3 := zt.cell 3 (v := .slice (some ⟨g2, 0, none⟩) 1 1) rfl
  have c4 := zt.lt
  clear hU hS hb0 zu zs zt
  go_wp2_with fail
  refine (leak_any smpT (some ⟨g1, 0, none⟩) 3 (some ⟨g2, 0, none⟩) 1 2 X0 (show 3 ≤ 1000000 by omega) (show 1 ≤ 1000000 by omega) M0.out.u M0.out.s M0.out.T M0.out.l).mono ?_
  rintro e X1 ⟨rfl, hb1⟩
  rw [smpT_all.1, smpT_all.2]
  have L1 := Lib.hid (L0.out.trans (hb1.mono L0.out.size))
  clear hb1 L0 M0 c0 c1 c2 c3 c4
  go_upto_region 4 with fail
  have z5 := Lib.hid (Box.new (g := X1.heap.size) #[.int .i64 25, .int .i64 45] 34 X1 rfl)
  have L2 := Lib.hid (L1.out.trans ((below_alloc1 X1 (.cells #[.int .i64 25, .int .i64 45] 34)).mono L1.out.size))
  obtain ⟨X2, hW⟩ : ∃ X, X = X1.alloc (.cells #[.int .i64 25, .int .i64 45] 34) := ⟨_, rfl⟩
  obtain ⟨g5, hG5⟩ : ∃ g, g = X1.heap.size := ⟨_, rfl⟩
  rw [← hW] at z5 L2 ⊢
  rw [← hG5] at z5 ⊢
  clear hW hG5 L1
  go_wp2_with fail
  have hbA := (below_alloc1 X2 (.cells #[.int .i64 5, .int .i64 9, .int .i64 0, .int .i64 0, .int .i64 0, .int .i64 0, .int .i64 0, .int .i64 0, .int .i64 (-1)] 41))
  have hbB := hbA.trans ((below_alloc1 (X2.alloc (.cells #[.int .i64 5, .int .i64 9, .int .i64 0, .int .i64 0, .int .i64 0, .int .i64 0, .int .i64 0, .int .i64 0, .int .i64 (-1)] 41)) (.cells #[.int .i64 40, .int .i64 45, .int .i64 0, .int .i64 15, .int .i64 1, .int .i64 1] 38)).mono hbA.size)
  have zZ : ZB ⟨5, 9⟩ X2.heap.size ((X2.alloc (.cells #[.int .i64 5, .int .i64 9, .int .i64 0, .int .i64 0, .int .i64 0, .int .i64 0, .int .i64 0, .int .i64 0, .int .i64 (-1)] 41)).alloc (.cells #[.int .i64 40, .int .i64 45, .int .i64 0, .int .i64 15, .int .i64 1, .int .i64 1] 38)) := (Box.new _ 41 X2 rfl).old _
  have zN : NB ⟨40, 45⟩ ⟨0, 15⟩ (X2.heap.size + 1) ((X2.alloc (.cells #[.int .i64 5, .int .i64 9, .int .i64 0, .int .i64 0, .int .i64 0, .int .i64 0, .int .i64 0, .int .i64 0, .int .i64 (-1)] 41)).alloc (.cells #[.int .i64 40, .int .i64 45, .int .i64 0, .int .i64 15, .int .i64 1, .int .i64 1] 38)) := Box.new _ 38 _ (by simp)
  refine (leaksZ_any ⟨5, 9⟩ ⟨40, 45⟩ ⟨0, 15⟩ X2.heap.size 1 (X2.heap.size + 1) 1 _ (by decide) (by decide) (by decide) zZ zN).mono ?_
  rintro e X3 ⟨⟨oa, cap, rfl, hsp⟩, hb3⟩
  have hb4 := hbB.trans (hb3.mono hbB.size)
  have L3 := Lib.hid (L2.out.trans (hb4.mono L2.out.size))
  have Z5 := Lib.hid (z5.out.below hb4)
  clear hbA hbB zZ zN hb3 hb4 L2 z5
  obtain ⟨b, off, rfl, lb, s0, s1⟩ := hsp 0 (by omega)
  have e9 : nightS ⟨40, 45⟩ ⟨0, 15⟩ = ⟨25, 45⟩ := by decide
  rw [e9] at s0 s1
  rw [Nat.zero_mul, Nat.add_zero] at s0 s1
  have a0 := Z5.out.cell 0 (v := .int .i64 25) rfl
  have a1 := Z5.out.cell 1 (v := .int .i64 45) rfl
  have a2 := Z5.out.lt
  clear hsp e9
  go_wp2_with fail
  go_ret
  exact ⟨rfl, L3.out⟩
end Go.Proofs.YtmeeknmjhlfnaaaDoor
