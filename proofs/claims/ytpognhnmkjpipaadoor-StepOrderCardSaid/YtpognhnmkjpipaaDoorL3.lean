/- The law's own functions: the document's examples hold. -/
import Derived.Test.YtpognhnmkjpipaaDoorL2
namespace Go.Proofs.YtpognhnmkjpipaaDoor
open Go.RowKit
abbrev tst3 (g1 g2 : Nat) (a b : Int) (m : Nat) : Value := .agg #[.slice (some ⟨g1, 0, none⟩) 3 3, .int .i64 a, .int .i64 b, .slice (some ⟨g2, 0, none⟩) m 3]
theorem steps_one {oa : Option Addr} {w : World} (h : StpsAt w oa 3 sS) : StpsAt w oa 1 sS := fun i hi => h i (by omega)
theorem ex_susp1 {g1 g2 : Nat} {w : World} (h : SmpAt g1 g2 w) (hT : TabAt 1 Lib.deBruijn64tab w) (h1 : 1 < w.heap.size) : Calls Tryd.prog 12 #[tst3 g1 g2 1 20 3] w fun e w' => e = .returned (.tuple #[.int .i64 2, .int .i64 2, .int .i64 0]) ∧ Below w.heap.size w w' := by
  have H := suspects_any smp (some ⟨g1, 0, none⟩) 3 (some ⟨g2, 0, none⟩) 3 w (by decide) (by decide) h.u h.s hT h1
  rw [smp_all.1, smp_all.2.1, smp_all.2.2.1] at H
  exact H
theorem ex_leak1 {g1 g2 : Nat} {w : World} (h : SmpAt g1 g2 w) (hT : TabAt 1 Lib.deBruijn64tab w) (h1 : 1 < w.heap.size) : Calls Tryd.prog 18 #[tst3 g1 g2 1 20 3, .int .i64 1] w fun e w' => e = .returned (.tuple #[.agg #[.int .i64 28, .int .i64 44], .int .i64 0]) ∧ Below w.heap.size w w' := by
  have H := leak_any smp (some ⟨g1, 0, none⟩) 3 (some ⟨g2, 0, none⟩) 3 1 w (by decide) (by decide) h.u h.s hT h1
  rw [smp_all.2.2.2.1, smp_all.2.2.2.2.1] at H
  exact H
theorem ex_sound1 {g1 g2 : Nat} {w : World} (h : SmpAt g1 g2 w) (hT : TabAt 1 Lib.deBruijn64tab w) (h1 : 1 < w.heap.size) : Calls Tryd.prog 14 #[tst3 g1 g2 1 20 3] w fun e w' => e = .returned (.tuple #[.bool false, .int .i64 0]) ∧ Below w.heap.size w w' := by
  have H := sound_any smp (some ⟨g1, 0, none⟩) 3 (some ⟨g2, 0, none⟩) 3 w (by decide) (by decide) h.u h.s hT h1
  rw [smp_all.2.2.2.2.2, smp_all.2.2.1] at H
  exact H
theorem ex_susp2 {g1 g2 : Nat} {w : World} (h : SmpAt g1 g2 w) (hT : TabAt 1 Lib.deBruijn64tab w) (h1 : 1 < w.heap.size) : Calls Tryd.prog 12 #[tst3 g1 g2 2 1 3] w fun e w' => e = .returned (.tuple #[.int .i64 7, .int .i64 2, .int .i64 0]) ∧ Below w.heap.size w w' := by
  have H := suspects_any smp2 (some ⟨g1, 0, none⟩) 3 (some ⟨g2, 0, none⟩) 3 w (by decide) (by decide) h.u h.s hT h1
  rw [smp2_all.1, smp2_all.2.1, smp2_all.2.2.1] at H
  exact H
theorem ex_leak2 {g1 g2 : Nat} {w : World} (h : SmpAt g1 g2 w) (hT : TabAt 1 Lib.deBruijn64tab w) (h1 : 1 < w.heap.size) : Calls Tryd.prog 18 #[tst3 g1 g2 2 1 3, .int .i64 0] w fun e w' => e = .returned (.tuple #[.agg #[.int .i64 1, .int .i64 17], .int .i64 0]) ∧ Below w.heap.size w w' := by
  have H := leak_any smp2 (some ⟨g1, 0, none⟩) 3 (some ⟨g2, 0, none⟩) 3 0 w (by decide) (by decide) h.u h.s hT h1
  rw [smp2_all.2.2.2.1, smp2_all.2.2.2.2.1] at H
  exact H
theorem ex_leak3 {g1 g2 : Nat} {w : World} (h : SmpAt g1 g2 w) (hT : TabAt 1 Lib.deBruijn64tab w) (h1 : 1 < w.heap.size) : Calls Tryd.prog 18 #[tst3 g1 g2 2 1 3, .int .i64 1] w fun e w' => e = .returned (.tuple #[.agg #[.int .i64 22, .int .i64 44], .int .i64 0]) ∧ Below w.heap.size w w' := by
  have H := leak_any smp2 (some ⟨g1, 0, none⟩) 3 (some ⟨g2, 0, none⟩) 3 1 w (by decide) (by decide) h.u h.s hT h1
  rw [smp2_all.2.2.2.2.2.1, smp2_all.2.2.2.2.2.2] at H
  exact H
theorem ex_next {g1 g2 : Nat} {w : World} (h : SmpAt g1 g2 w) (hT : TabAt 1 Lib.deBruijn64tab w) (h1 : 1 < w.heap.size) {g3 : Nat} {ty : TypeId} (hv : Box g3 #[.int .i64 1, .int .i64 3, .int .i64 4] ty w) : Calls Tryd.prog 16 #[tst3 g1 g2 1 20 1, .slice (some ⟨g3, 0, none⟩) 3 3] w fun e w' => e = .returned (.tuple #[.int .i64 0, .int .i64 2, .int .i64 0]) ∧ Below w.heap.size w w' := by
  have H := next_any smp3 (some ⟨g1, 0, none⟩) 3 (some ⟨g2, 0, none⟩) 3 (some ⟨g3, 0, none⟩) 3 3 sV w (by decide) (by decide) (by decide) h.u (steps_one h.s) (fun i hi => ⟨g3, 0, rfl, hv.lt, by rcases (by omega : i = 0 ∨ i = 1 ∨ i = 2) with rfl | rfl | rfl <;> exact hv.cell _ rfl⟩) hT h1
  rw [smp3_all.1, smp3_all.2] at H
  exact H
theorem ex_sample (w : World) :
    Calls Tryd.prog 28 #[] w fun e w' => (∃ g1 g2, e = .returned (tst3 g1 g2 1 20 3) ∧ SmpAt g1 g2 w' ∧ w.heap.size ≤ g1 ∧ w.heap.size ≤ g2) ∧ Below w.heap.size w w' := sample_any w
/-- where awake stands -/
structure Aw (w : World) (g0 g1 g2 : Nat) (a b : Int) (m : Nat) (W : World) : Prop where
  low : Below w.heap.size w W
  box : Box g0 #[.slice (some ⟨g1, 0, none⟩) 3 3, .int .i64 a, .int .i64 b, .slice (some ⟨g2, 0, none⟩) m 3] 25 W
  at_ : SmpAt g1 g2 W
  n1 : g0 ≠ g1
  n2 : g0 ≠ g2
theorem Aw.on {w : World} {g0 g1 g2 : Nat} {a b : Int} {m : Nat} {A B : World} (h : Aw w g0 g1 g2 a b m A) (hb : Below A.heap.size A B) : Aw w g0 g1 g2 a b m B :=
  ⟨h.low.trans (hb.mono h.low.size), h.box.below hb, h.at_.mono hb, h.n1, h.n2⟩
theorem aw_cells {w : World} {g0 g1 g2 : Nat} {a b : Int} {m : Nat} {W : World} (h : Aw w g0 g1 g2 a b m W) : W.cell? ⟨g0, 0, none⟩ = some (.slice (some ⟨g1, 0, none⟩) 3 3) ∧ W.cell? ⟨g0, 1, none⟩ = some (.int .i64 a) ∧ W.cell? ⟨g0, 2, none⟩ = some (.int .i64 b) ∧ W.cell? ⟨g0, 3, none⟩ = some (.slice (some ⟨g2, 0, none⟩) m 3) ∧ g0 < W.heap.size := ⟨h.box.cell 0 rfl, h.box.cell 1 rfl, h.box.cell 2 rfl, h.box.cell 3 rfl, h.box.lt⟩
theorem SmpAt.only {g0 g1 g2 : Nat} {w w' : World} (h : SmpAt g1 g2 w) (ho : Only g0 w w') (n1 : g0 ≠ g1) (n2 : g0 ≠ g2) : SmpAt g1 g2 w' := by
  refine ⟨fun i hi => ?_, fun i hi => ?_⟩
  · obtain ⟨b, o, e, hl, c0, c1⟩ := h.u i hi
    cases e
    have k := ho.block g1 (Ne.symm n1)
    exact ⟨g1, 0, rfl, by rw [ho.size]; exact hl, (World.cell?_of_block (a := ⟨g1, 0 + i * 2, none⟩) k).trans c0, (World.cell?_of_block (a := ⟨g1, 0 + i * 2 + 1, none⟩) k).trans c1⟩
  · obtain ⟨b, o, e, hl, c0, c1, c2⟩ := h.s i hi
    cases e
    have k := ho.block g2 (Ne.symm n2)
    exact ⟨g2, 0, rfl, by rw [ho.size]; exact hl, (World.cell?_of_block (a := ⟨g2, 0 + i * 3, none⟩) k).trans c0, (World.cell?_of_block (a := ⟨g2, 0 + i * 3 + 1, none⟩) k).trans c1, (World.cell?_of_block (a := ⟨g2, 0 + i * 3 + 1 + 1, none⟩) k).trans c2⟩
theorem aw_new {w : World} {g0 g1 g2 p1 p2 : Nat} {a' b' a b : Int} {m' m : Nat} {A B : World} (h : Aw w g0 g1 g2 a' b' m' A) (hg : w.heap.size ≤ g0) (ho : Only g0 A B) (hB : Box g0 #[.slice (some ⟨p1, 0, none⟩) 3 3, .int .i64 a, .int .i64 b, .slice (some ⟨p2, 0, none⟩) m 3] 25 B) (hs : SmpAt p1 p2 A) (n1 : g0 ≠ p1) (n2 : g0 ≠ p2) : Aw w g0 p1 p2 a b m B :=
  ⟨h.low.trans (ho.below hg), hB, hs.only ho n1 n2, n1, n2⟩
theorem aw_put {w : World} {g0 g1 g2 : Nat} {a' b' a b : Int} {m' m : Nat} {A B : World} (h : Aw w g0 g1 g2 a' b' m' A) (hg : w.heap.size ≤ g0) (ho : Only g0 A B) (hB : Box g0 #[.slice (some ⟨g1, 0, none⟩) 3 3, .int .i64 a, .int .i64 b, .slice (some ⟨g2, 0, none⟩) m 3] 25 B) : Aw w g0 g1 g2 a b m B :=
  aw_new h hg ho hB h.at_ h.n1 h.n2
set_option maxRecDepth 100000 in
set_option maxHeartbeats 8000000 in
theorem awake_any (w : World) (hT : TabAt 1 Lib.deBruijn64tab w) (h1 : 1 < w.heap.size) :
    Calls Tryd.prog 11 #[] w fun e w' => e = .returned (.bool true) ∧ Below w.heap.size w w' := by
  have HT : ∀ W, Below w.heap.size w W → Hid (TabAt 1 Lib.deBruijn64tab W ∧ 1 < W.heap.size) := fun W hW => Lib.hid ⟨fun j hj => (hW.cell (p := ⟨1, j, none⟩) h1).trans (hT j hj), Nat.lt_of_lt_of_le h1 hW.size⟩
  have HTT := Lib.hid HT
  clear HT hT
  go_enter Tryd.func11, Tryd.ntmps11
  go_wp2_with fail
  refine (ex_sample _).mono ?_
  rintro e w1 ⟨⟨g1, g2, rfl, hsm, hg1, hg2⟩, hb1⟩
  have hne1 : w1.heap.size ≠ g1 := by obtain ⟨b, o, e9, hl, -⟩ := hsm.u 0 (by omega); cases e9; omega
  have hne2 : w1.heap.size ≠ g2 := by obtain ⟨b, o, e9, hl, -⟩ := hsm.s 0 (by omega); cases e9; omega
  obtain ⟨g0, hg0⟩ : ∃ g, g = w1.heap.size := ⟨_, rfl⟩
  have HA := Lib.hid (show Aw w g0 g1 g2 1 20 3 (w1.alloc (.cells #[.slice (some ⟨g1, 0, none⟩) 3 3, .int .i64 1, .int .i64 20, .slice (some ⟨g2, 0, none⟩) 3 3] 25)) from ⟨hb1.trans ((below_alloc1 _ _).mono hb1.size), Box.new _ _ _ hg0, hsm.mono (below_alloc1 _ _), by rw [hg0]; exact hne1, by rw [hg0]; exact hne2⟩)
  have hgw : w.heap.size ≤ g0 := by rw [hg0]; exact hb1.size
  go_upto_region 2 with fail
  obtain ⟨W1, hW⟩ : ∃ X, X = w1.alloc (.cells #[.slice (some ⟨g1, 0, none⟩) 3 3, .int .i64 1, .int .i64 20, .slice (some ⟨g2, 0, none⟩) 3 3] 25) := ⟨_, rfl⟩
  rw [← hW] at HA ⊢
  rw [← hg0]
  clear hW hg0 hsm hg1 hg2 hb1 hne1 hne2
  have TT := (HTT.out _ HA.out.low).out
  obtain ⟨k0, k1, k2, k3, kl⟩ := aw_cells HA.out
  go_wp2_with fail
  refine (ex_susp1 HA.out.at_ TT.1 TT.2).mono ?_
  rintro e v2 ⟨rfl, hb⟩
  have HB := Lib.hid (HA.out.on hb)
  clear HA TT k0 k1 k2 k3 kl hb 
  go_upto_region 3 with fail
  obtain ⟨X2, hW⟩ : ∃ X, X = v2 := ⟨_, rfl⟩
  rw [← hW] at HB  ⊢
  clear hW
  have HA := HB
  clear HB
  have TT := (HTT.out _ HA.out.low).out
  obtain ⟨k0, k1, k2, k3, kl⟩ := aw_cells HA.out
  go_wp2_with fail
  refine (ex_leak1 HA.out.at_ TT.1 TT.2).mono ?_
  rintro e v3 ⟨rfl, hb⟩
  have HB := Lib.hid ((HA.out.on hb).on (below_alloc1 v3 (.cells #[.int .i64 28, .int .i64 44] 37)))
  have HYa := Lib.hid (Box.new (g := v3.heap.size) #[.int .i64 28, .int .i64 44] 37 v3 rfl)
  have hna : v3.heap.size ≠ g0 := by have := (HA.out.on hb).box.lt; omega
  clear HA TT k0 k1 k2 k3 kl hb 
  go_upto_region 4 with fail
  obtain ⟨Ga, hG⟩ : ∃ g, g = v3.heap.size := ⟨_, rfl⟩
  obtain ⟨X3, hW⟩ : ∃ X, X = v3.alloc (.cells #[.int .i64 28, .int .i64 44] 37) := ⟨_, rfl⟩
  rw [← hW] at HB  HYa ⊢
  rw [← hG] at HYa hna ⊢
  clear hG
  clear hW
  have HA := HB
  clear HB
  have HXa := HYa
  clear HYa
  have TT := (HTT.out _ HA.out.low).out
  obtain ⟨k0, k1, k2, k3, kl⟩ := aw_cells HA.out
  go_wp2_with fail
  refine (ex_sound1 HA.out.at_ TT.1 TT.2).mono ?_
  rintro e v4 ⟨rfl, hb⟩
  have HB := Lib.hid (HA.out.on hb)
  have HYa := Lib.hid (HXa.out.below hb)
  clear HA TT k0 k1 k2 k3 kl hb HXa
  go_upto_region 5 with fail
  obtain ⟨X4, hW⟩ : ∃ X, X = v4 := ⟨_, rfl⟩
  rw [← hW] at HB HYa ⊢
  clear hW
  have HA := HB
  clear HB
  have HXa := HYa
  clear HYa
  obtain ⟨k0, k1, k2, k3, kl⟩ := aw_cells HA.out
  have q1 := HA.out.box.frozen 1
  have q2 := HA.out.box.frozen 2
  go_upto_region 6 with fail
  have ho := ((Only.refl g0 X4).setCell 1 (.int .i64 2)).setCell 2 (.int .i64 1)
  have HB := Lib.hid (show Aw w g0 g1 g2 2 1 3 ((X4.setCell ⟨g0, 1, none⟩ (.int .i64 2)).setCell ⟨g0, 2, none⟩ (.int .i64 1)) from aw_put HA.out hgw ho ((HA.out.box.set 1 (.int .i64 2)).set 2 (.int .i64 1)))
  have HYa := Lib.hid (ho.box HXa.out hna)
  clear HA HXa ho k0 k1 k2 k3 kl q1 q2
  obtain ⟨X5, hW⟩ : ∃ X, X = (X4.setCell ⟨g0, 1, none⟩ (.int .i64 2)).setCell ⟨g0, 2, none⟩ (.int .i64 1) := ⟨_, rfl⟩
  rw [← hW] at HB HYa ⊢
  clear hW
  have HA := HB
  have HXa := HYa
  clear HB HYa
  have TT := (HTT.out _ HA.out.low).out
  obtain ⟨k0, k1, k2, k3, kl⟩ := aw_cells HA.out
  go_wp2_with fail
  refine (ex_susp2 HA.out.at_ TT.1 TT.2).mono ?_
  rintro e v6 ⟨rfl, hb⟩
  have HB := Lib.hid (HA.out.on hb)
  have HYa := Lib.hid (HXa.out.below hb)
  clear HA TT k0 k1 k2 k3 kl hb HXa
  go_upto_region 7 with fail
  obtain ⟨X6, hW⟩ : ∃ X, X = v6 := ⟨_, rfl⟩
  rw [← hW] at HB HYa ⊢
  clear hW
  have HA := HB
  clear HB
  have HXa := HYa
  clear HYa
  have TT := (HTT.out _ HA.out.low).out
  obtain ⟨k0, k1, k2, k3, kl⟩ := aw_cells HA.out
  go_wp2_with fail
  refine (ex_leak2 HA.out.at_ TT.1 TT.2).mono ?_
  rintro e v7 ⟨rfl, hb⟩
  have HB := Lib.hid ((HA.out.on hb).on (below_alloc1 v7 (.cells #[.int .i64 1, .int .i64 17] 37)))
  have HYb := Lib.hid (Box.new (g := v7.heap.size) #[.int .i64 1, .int .i64 17] 37 v7 rfl)
  have hnb : v7.heap.size ≠ g0 := by have := (HA.out.on hb).box.lt; omega
  have HYa := Lib.hid ((HXa.out.below hb).old (.cells #[.int .i64 1, .int .i64 17] 37))
  clear HA TT k0 k1 k2 k3 kl hb HXa
  go_upto_region 8 with fail
  obtain ⟨Gb, hG⟩ : ∃ g, g = v7.heap.size := ⟨_, rfl⟩
  obtain ⟨X7, hW⟩ : ∃ X, X = v7.alloc (.cells #[.int .i64 1, .int .i64 17] 37) := ⟨_, rfl⟩
  rw [← hW] at HB HYa HYb ⊢
  rw [← hG] at HYb hnb ⊢
  clear hG
  clear hW
  have HA := HB
  clear HB
  have HXa := HYa
  clear HYa
  have HXb := HYb
  clear HYb
  have TT := (HTT.out _ HA.out.low).out
  obtain ⟨k0, k1, k2, k3, kl⟩ := aw_cells HA.out
  go_wp2_with fail
  refine (ex_leak3 HA.out.at_ TT.1 TT.2).mono ?_
  rintro e v8 ⟨rfl, hb⟩
  have HB := Lib.hid ((HA.out.on hb).on (below_alloc1 v8 (.cells #[.int .i64 22, .int .i64 44] 37)))
  have HYc := Lib.hid (Box.new (g := v8.heap.size) #[.int .i64 22, .int .i64 44] 37 v8 rfl)
  have hnc : v8.heap.size ≠ g0 := by have := (HA.out.on hb).box.lt; omega
  have HYa := Lib.hid ((HXa.out.below hb).old (.cells #[.int .i64 22, .int .i64 44] 37))
  have HYb := Lib.hid ((HXb.out.below hb).old (.cells #[.int .i64 22, .int .i64 44] 37))
  clear HA TT k0 k1 k2 k3 kl hb HXa HXb
  go_upto_region 9 with fail
  obtain ⟨Gc, hG⟩ : ∃ g, g = v8.heap.size := ⟨_, rfl⟩
  obtain ⟨X8, hW⟩ : ∃ X, X = v8.alloc (.cells #[.int .i64 22, .int .i64 44] 37) := ⟨_, rfl⟩
  rw [← hW] at HB HYa HYb HYc ⊢
  rw [← hG] at HYc hnc ⊢
  clear hG
  clear hW
  have HA := HB
  clear HB
  have HXa := HYa
  clear HYa
  have HXb := HYb
  clear HYb
  have HXc := HYc
  clear HYc
  obtain ⟨k0, k1, k2, k3, kl⟩ := aw_cells HA.out
  go_wp2_with fail
  refine (ex_sample _).mono ?_
  rintro e v9 ⟨⟨p1, p2, rfl, hsm, hp1, hp2⟩, hb⟩
  have hn1 : g0 ≠ p1 := by omega
  have hn2 : g0 ≠ p2 := by omega
  have HB := Lib.hid (HA.out.on hb)
  have HS := Lib.hid hsm
  have HYa := Lib.hid (HXa.out.below hb)
  have HYb := Lib.hid (HXb.out.below hb)
  have HYc := Lib.hid (HXc.out.below hb)
  clear HA HXa HXb HXc hb hsm hp1 hp2 k0 k1 k2 k3 kl
  obtain ⟨k0, k1, k2, k3, kl⟩ := aw_cells HB.out
  have q0 := HB.out.box.frozen 0
  have q1 := HB.out.box.frozen 1
  have q2 := HB.out.box.frozen 2
  have q3 := HB.out.box.frozen 3
  go_upto_region 10 with fail
  have ho := (((Only.refl g0 v9).setCell 0 (.slice (some ⟨p1, 0, none⟩) 3 3)).setCell 1 (.int .i64 1)).setCell 2 (.int .i64 20) |>.setCell 3 (.slice (some ⟨p2, 0, none⟩) 3 3)
  have HA := Lib.hid (aw_new (p1 := p1) (p2 := p2) (a := 1) (b := 20) (m := 3) HB.out hgw ho ((((HB.out.box.set 0 (.slice (some ⟨p1, 0, none⟩) 3 3)).set 1 (.int .i64 1)).set 2 (.int .i64 20)).set 3 (.slice (some ⟨p2, 0, none⟩) 3 3)) HS.out hn1 hn2)
  have HXa := Lib.hid (ho.box HYa.out hna)
  have HXb := Lib.hid (ho.box HYb.out hnb)
  have HXc := Lib.hid (ho.box HYc.out hnc)
  clear HB HYa HYb HYc ho HS hn1 hn2 k0 k1 k2 k3 kl q0 q1 q2 q3
  obtain ⟨X9, hW⟩ : ∃ X, X = (((v9.setCell ⟨g0, 0, none⟩ (.slice (some ⟨p1, 0, none⟩) 3 3)).setCell ⟨g0, 1, none⟩ (.int .i64 1)).setCell ⟨g0, 2, none⟩ (.int .i64 20)).setCell ⟨g0, 3, none⟩ (.slice (some ⟨p2, 0, none⟩) 3 3) := ⟨_, rfl⟩
  rw [← hW] at HA HXa HXb HXc ⊢
  clear hW
  obtain ⟨k0, k1, k2, k3, kl⟩ := aw_cells HA.out
  have q3 := HA.out.box.frozen 3
  go_upto_region 11 with fail
  have ho := (Only.refl g0 X9).setCell 3 (.slice (some ⟨p2, 0, none⟩) 1 3)
  have HB := Lib.hid (aw_put (a := 1) (b := 20) (m := 1) HA.out hgw ho (HA.out.box.set 3 (.slice (some ⟨p2, 0, none⟩) 1 3)))
  have HYa := Lib.hid (ho.box HXa.out hna)
  have HYb := Lib.hid (ho.box HXb.out hnb)
  have HYc := Lib.hid (ho.box HXc.out hnc)
  clear HA HXa HXb HXc ho k0 k1 k2 k3 kl q3
  obtain ⟨X10, hW⟩ : ∃ X, X = X9.setCell ⟨g0, 3, none⟩ (.slice (some ⟨p2, 0, none⟩) 1 3) := ⟨_, rfl⟩
  rw [← hW] at HB HYa HYb HYc ⊢
  clear hW
  obtain ⟨k0, k1, k2, k3, kl⟩ := aw_cells HB.out
  go_wp2_with fail
  have hbv := below_alloc1 X10 (.cells #[.int .i64 1, .int .i64 3, .int .i64 4] 3)
  have zv := Box.new (g := X10.heap.size) #[.int .i64 1, .int .i64 3, .int .i64 4] 3 X10 rfl
  have HC := Lib.hid (HB.out.on hbv)
  have TT := (HTT.out _ HC.out.low).out
  refine (ex_next HC.out.at_ TT.1 TT.2 zv).mono ?_
  rintro e v11 ⟨rfl, hb⟩
  have HD := Lib.hid (HC.out.on hb)
  have za := (HYa.out.below hbv).below hb
  have zb := (HYb.out.below hbv).below hb
  have zc := (HYc.out.below hbv).below hb
  clear k0 k1 k2 k3 kl HB HC HYa HYb HYc hbv zv TT hb
  have a0 : ∀ W : Aft v11, W.val.cell? ⟨Ga, 0, none⟩ = some (.int .i64 28) := fun W => (za.below W.below).cell 0 rfl
  have a1 : ∀ W : Aft v11, W.val.cell? ⟨Ga, 1, none⟩ = some (.int .i64 44) := fun W => (za.below W.below).cell 1 rfl
  have b0 : ∀ W : Aft v11, W.val.cell? ⟨Gb, 0, none⟩ = some (.int .i64 1) := fun W => (zb.below W.below).cell 0 rfl
  have b1 : ∀ W : Aft v11, W.val.cell? ⟨Gb, 1, none⟩ = some (.int .i64 17) := fun W => (zb.below W.below).cell 1 rfl
  have c0 : ∀ W : Aft v11, W.val.cell? ⟨Gc, 0, none⟩ = some (.int .i64 22) := fun W => (zc.below W.below).cell 0 rfl
  have c1 : ∀ W : Aft v11, W.val.cell? ⟨Gc, 1, none⟩ = some (.int .i64 44) := fun W => (zc.below W.below).cell 1 rfl
  clear za zb zc
  go_upto_region 12 with fail
  simp only [List.append]
  refine wp_region_aft (by kernel_rfl) (by kernel_rfl) ?_
  repeat (go_big_quiet_step ((go_at_call 24; exact aft_call (span_any _ _ _))))
  refine wpQuiet_nil ?_
  intro WA
  obtain ⟨wy, hwy⟩ : ∃ X, X = WA.val := ⟨_, rfl⟩
  have hby := WA.below
  rw [← hwy] at hby ⊢
  clear hwy WA
  go_wp2_with fail
  go_ret
  exact ⟨rfl, HD.out.low.trans (hby.mono HD.out.low.size)⟩
end Go.Proofs.YtpognhnmkjpipaaDoor
