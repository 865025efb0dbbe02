/- Travel: the law's sample; awake returns true. -/
import Derived.Test.YtldodmfmibeoiaaDoorP4
namespace Go.Proofs.YtldodmfmibeoiaaDoor
open Go.RowKit
set_option maxRecDepth 100000 in
set_option maxHeartbeats 4000000 in
theorem sample_any (w : World) :
    Calls Tryd.prog 31 #[] w fun e w' => ∃ oa, e = .returned (smp.val oa 6) ∧ TrpsAt w' oa 6 smp.t ∧ Below w.heap.size w w' := by
  go_enter Tryd.func31, Tryd.ntmps31
  go_wp2_with fail
  have hb0 := below_alloc1 w (.cells #[.int .i64 0, .int .i64 0, .int .i64 0, .slice none 0 0] 24)
  have hZ := Box.new (g := w.heap.size) #[.int .i64 0, .int .i64 0, .int .i64 0, .slice none 0 0] 24 w rfl
  obtain ⟨W0, hW⟩ : ∃ X, X = w.alloc (.cells #[.int .i64 0, .int .i64 0, .int .i64 0, .slice none 0 0] 24) := ⟨_, rfl⟩
  rw [← hW] at hb0 hZ ⊢
  clear hW
  obtain ⟨g0, hg0⟩ : ∃ G, G = w.heap.size := ⟨_, rfl⟩
  rw [← hg0] at hZ ⊢
  have HG := Lib.hid (show w.heap.size ≤ g0 by omega)
  have HL0 := Lib.hid hb0
  have HZ0 := Lib.hid hZ
  clear hg0 hb0 hZ

  refine (lspan_any _ _ _).mono ?_
  rintro e W1 ⟨rfl, hb⟩
  have HL1 := Lib.hid (HL0.out.trans (hb.mono HL0.out.size))
  have HZ1 := Lib.hid (HZ0.out.below hb)
  clear hb HL0 HZ0
  go_wp2_with fail
  refine (lspan_any _ _ _).mono ?_
  rintro e W2 ⟨rfl, hb⟩
  have HL2 := Lib.hid (HL1.out.trans (hb.mono HL1.out.size))
  have HZ2 := Lib.hid (HZ1.out.below hb)
  clear hb HL1 HZ1
  go_wp2_with fail
  refine (lspan_any _ _ _).mono ?_
  rintro e W3 ⟨rfl, hb⟩
  have HL3 := Lib.hid (HL2.out.trans (hb.mono HL2.out.size))
  have HZ3 := Lib.hid (HZ2.out.below hb)
  clear hb HL2 HZ2
  go_wp2_with fail
  refine (lspan_any _ _ _).mono ?_
  rintro e W4 ⟨rfl, hb⟩
  have HL4 := Lib.hid (HL3.out.trans (hb.mono HL3.out.size))
  have HZ4 := Lib.hid (HZ3.out.below hb)
  clear hb HL3 HZ3
  go_wp2_with fail
  refine (lspan_any _ _ _).mono ?_
  rintro e W5 ⟨rfl, hb⟩
  have HL5 := Lib.hid (HL4.out.trans (hb.mono HL4.out.size))
  have HZ5 := Lib.hid (HZ4.out.below hb)
  clear hb HL4 HZ4
  go_wp2_with fail
  refine (lspan_any _ _ _).mono ?_
  rintro e W6 ⟨rfl, hb⟩
  have HL6 := Lib.hid (HL5.out.trans (hb.mono HL5.out.size))
  have HZ6 := Lib.hid (HZ5.out.below hb)
  clear hb HL5 HZ5
  have c0 := HZ6.out.cell 0 rfl
  have c1 := HZ6.out.cell 1 rfl
  have c2 := HZ6.out.cell 2 rfl
  have c3 := HZ6.out.cell 3 rfl
  have f0 := HZ6.out.frozen 0
  have f1 := HZ6.out.frozen 1
  have f2 := HZ6.out.frozen 2
  have f3 := HZ6.out.frozen 3
  have l0 := HZ6.out.lt
  go_wp2_with fail
  have z1 := (((((HZ6.out.set 0 (.int .i64 3)).set 1 (.int .i64 2)).set 2 (.int .i64 10)).set 3 (.slice (some ⟨W6.heap.size, 0, none⟩) 6 6)).old (.cells #[.int .i64 0, .int .i64 0, .int .i64 100, .int .i64 104, .int .i64 1, .int .i64 0, .int .i64 98, .int .i64 102, .int .i64 2, .int .i64 0, .int .i64 140, .int .i64 144, .int .i64 0, .int .i64 1, .int .i64 (-50), .int .i64 (-46), .int .i64 2, .int .i64 1, .int .i64 (-8), .int .i64 (-4), .int .i64 1, .int .i64 1, .int .i64 (-53), .int .i64 (-49)] 48))
  have hb := ((((HL6.out.setCell (p := ⟨g0, 0, none⟩) HG.out (.int .i64 3)).setCell (p := ⟨g0, 1, none⟩) HG.out (.int .i64 2)).setCell (p := ⟨g0, 2, none⟩) HG.out (.int .i64 10)).setCell (p := ⟨g0, 3, none⟩) HG.out (.slice (some ⟨W6.heap.size, 0, none⟩) 6 6)).alloc (by simpa using HL6.out.size) (.cells #[.int .i64 0, .int .i64 0, .int .i64 100, .int .i64 104, .int .i64 1, .int .i64 0, .int .i64 98, .int .i64 102, .int .i64 2, .int .i64 0, .int .i64 140, .int .i64 144, .int .i64 0, .int .i64 1, .int .i64 (-50), .int .i64 (-46), .int .i64 2, .int .i64 1, .int .i64 (-8), .int .i64 (-4), .int .i64 1, .int .i64 1, .int .i64 (-53), .int .i64 (-49)] 48)
  have z2 := Box.new (g := W6.heap.size) #[.int .i64 0, .int .i64 0, .int .i64 100, .int .i64 104, .int .i64 1, .int .i64 0, .int .i64 98, .int .i64 102, .int .i64 2, .int .i64 0, .int .i64 140, .int .i64 144, .int .i64 0, .int .i64 1, .int .i64 (-50), .int .i64 (-46), .int .i64 2, .int .i64 1, .int .i64 (-8), .int .i64 (-4), .int .i64 1, .int .i64 1, .int .i64 (-53), .int .i64 (-49)] 48 ((((W6.setCell ⟨g0, 0, none⟩ (.int .i64 3)).setCell ⟨g0, 1, none⟩ (.int .i64 2)).setCell ⟨g0, 2, none⟩ (.int .i64 10)).setCell ⟨g0, 3, none⟩ (.slice (some ⟨W6.heap.size, 0, none⟩) 6 6)) (by simp)
  refine bodyPost_ret (results_cell_row (p := 0) (ty := 24) rfl _ _ g0 24 #[.int .i64 3, .int .i64 2, .int .i64 10, .slice (some ⟨W6.heap.size, 0, none⟩) 6 6] (0, 0) (Option.getD (Tryd.prog.underlying 24) (.array 0 0)) rfl z1.row (by kernel_rfl) (by kernel_rfl) (by kernel_rfl)) rfl ⟨some ⟨W6.heap.size, 0, none⟩, rfl, fun i hi => ?_, hb⟩
  have hi : i < 6 := hi
  refine ⟨W6.heap.size, 0, rfl, z2.lt, ?_⟩
  rcases (by omega : i = 0 ∨ i = 1 ∨ i = 2 ∨ i = 3 ∨ i = 4 ∨ i = 5) with rfl | rfl | rfl | rfl | rfl | rfl
  · exact ⟨z2.cell 0 rfl, z2.cell 1 rfl, z2.cell 2 rfl, z2.cell 3 rfl⟩
  · exact ⟨z2.cell 4 rfl, z2.cell 5 rfl, z2.cell 6 rfl, z2.cell 7 rfl⟩
  · exact ⟨z2.cell 8 rfl, z2.cell 9 rfl, z2.cell 10 rfl, z2.cell 11 rfl⟩
  · exact ⟨z2.cell 12 rfl, z2.cell 13 rfl, z2.cell 14 rfl, z2.cell 15 rfl⟩
  · exact ⟨z2.cell 16 rfl, z2.cell 17 rfl, z2.cell 18 rfl, z2.cell 19 rfl⟩
  · exact ⟨z2.cell 20 rfl, z2.cell 21 rfl, z2.cell 22 rfl, z2.cell 23 rfl⟩
/-- what awake's calls keep -/
structure Aw (r : Rnd) (w : World) (oa : Option Addr) (g1 : Nat) (W : World) : Prop where
  low : Below w.heap.size w W
  box : Box g1 #[.int .i64 r.nb, .int .i64 r.nm, .int .i64 r.most, .slice oa r.n 6] 24 W
  tr : TrpsAt W oa r.n r.t
theorem Aw.on {r : Rnd} {w : World} {oa : Option Addr} {g1 : Nat} {W W' : World} (h : Aw r w oa g1 W) (hb : Below W.heap.size W W') : Aw r w oa g1 W' := ⟨h.low.trans (hb.mono h.low.size), h.box.below hb, h.tr.mono hb⟩
theorem Aw.cells {r : Rnd} {w : World} {oa : Option Addr} {g1 : Nat} {W : World} (h : Aw r w oa g1 W) : W.cell? ⟨g1, 0, none⟩ = some (.int .i64 r.nb) ∧ W.cell? ⟨g1, 1, none⟩ = some (.int .i64 r.nm) ∧ W.cell? ⟨g1, 2, none⟩ = some (.int .i64 r.most) ∧ W.cell? ⟨g1, 3, none⟩ = some (.slice oa r.n 6) ∧ g1 < W.heap.size := ⟨h.box.cell 0 rfl, h.box.cell 1 rfl, h.box.cell 2 rfl, h.box.cell 3 rfl, h.box.lt⟩
theorem smp_clashP {off : Int} {w w' : World} {e : Ending} {s : Nat} (h : ClashPost smp off w e w') (he : smp.err off = 0) (hs : s < 64) (hb : okT (smp.tab off s) = false) (hu : ∀ best, ClB smp off best → best = s) : Below w.heap.size w w' ∧ ∃ v, e = .returned (.tuple #[v, .int .i64 0]) ∧ w'.ownsRow w.heap.size 3 1 v (memI s).length (listNews (memI s)) := by
  obtain ⟨hl, h | h | ⟨-, best, h1, v, h2, h3⟩⟩ := h
  · exact absurd he h.1
  · have := h.2.1 s hs
    rw [hb] at this
    cases this
  · rw [hu best h1] at h3
    exact ⟨hl, v, h2, h3⟩
set_option maxRecDepth 100000 in
set_option maxHeartbeats 8000000 in
theorem awake_any (w : World) (hT : TabAt 1 Lib.deBruijn64tab w) (hw1 : 1 < w.heap.size) :
    Calls Tryd.prog 11 #[] w fun e w' => e = .returned (.bool true) ∧ Below w.heap.size w w' := by
  have HTT := Lib.hid (fun (W : World) (h : Below w.heap.size w W) => show TabAt 1 Lib.deBruijn64tab W ∧ 1 < W.heap.size from ⟨tab_below hT hw1 h, Nat.lt_of_lt_of_le hw1 h.size⟩)
  clear hT hw1
  have HS := Lib.hid (fun W : World => sample_any W)
  have K1 := Lib.hid smp_fits
  have K2 := Lib.hid smp_convict
  have K3 := Lib.hid smp_fault
  have K4 := Lib.hid smp_error
  have K5 := Lib.hid (fun (w w' : World) (e : Ending) (h : ClashPost smp 0 w e w') => smp_clashP h smp_err0 (by decide) smp_bad6 (fun _ h => smp_clash0 h))
  have K6 := Lib.hid (fun (w w' : World) (e : Ending) (h : ClashPost smp (-1) w e w') => smp_clashP h smp_errN (by decide) smp_bad5 (fun _ h => smp_clashN h))
  have K7 := Lib.hid smp_err1
  have hn0 : smp.n ≤ 1000000 := by decide
  have HN6 := Lib.hid (show smp.n = 6 from rfl)
  rw [mem_6] at K5
  rw [mem_5] at K6
  obtain ⟨r, hr⟩ : ∃ r, r = smp := ⟨_, rfl⟩
  have HS : Hid (∀ W : World, Calls Tryd.prog 31 #[] W fun e w' => ∃ oa, e = .returned (r.val oa 6) ∧ TrpsAt w' oa r.n r.t ∧ Below W.heap.size W w') := by rw [hr]; exact HS
  rw [← hr] at K1 K2 K3 K4 K5 K6 K7 hn0 HN6
  clear hr
  go_enter Tryd.func11, Tryd.ntmps11
  go_wp2_with fail
  refine (HS.out _).mono ?_
  rintro e W1 ⟨oa, rfl, hA, hb⟩
  clear HS
  have HA := Lib.hid (show Aw r w oa W1.heap.size (W1.alloc (.cells #[.int .i64 r.nb, .int .i64 r.nm, .int .i64 r.most, .slice oa r.n 6] 24)) from ⟨hb.alloc hb.size _, Box.new _ _ _ rfl, hA.mono (below_alloc1 _ _)⟩)
  go_upto_region 2 with fail
  obtain ⟨g1, hg1⟩ : ∃ G, G = W1.heap.size := ⟨_, rfl⟩
  obtain ⟨X1, hX⟩ : ∃ X, X = W1.alloc (.cells #[.int .i64 r.nb, .int .i64 r.nm, .int .i64 r.most, .slice oa r.n 6] 24) := ⟨_, rfl⟩
  rw [← hX, ← hg1] at HA
  rw [← hX, ← hg1]
  clear hX hg1 hA hb

  obtain ⟨k0, k1, k2, k3, kl⟩ := HA.out.cells
  go_wp2_with fail
  refine (fits_any r oa 6 1 _ hn0 (HTT.out _ HA.out.low).1 (HTT.out _ HA.out.low).2 HA.out.tr).mono ?_
  rintro e v2 ⟨rfl, hb⟩
  rw [K1.out, K7.out]
  have HB := Lib.hid (HA.out.on hb)
  clear HA k0 k1 k2 k3 kl hb 
  go_upto_region 3 with fail
  obtain ⟨X2, hW⟩ : ∃ X, X = v2 := ⟨_, rfl⟩
  rw [← hW] at HB  ⊢
  clear hW
  have HA := HB
  clear HB
  obtain ⟨k0, k1, k2, k3, kl⟩ := HA.out.cells
  go_wp2_with fail
  refine (convict_any r oa 6 _ hn0 (HTT.out _ HA.out.low).1 (HTT.out _ HA.out.low).2 HA.out.tr).mono ?_
  rintro e v3 ⟨rfl, hb⟩
  rw [K2.out]
  dsimp only
  have HB := Lib.hid (HA.out.on hb)
  clear HA k0 k1 k2 k3 kl hb 
  go_upto_region 4 with fail
  obtain ⟨X3, hW⟩ : ∃ X, X = v3 := ⟨_, rfl⟩
  rw [← hW] at HB  ⊢
  clear hW
  have HA := HB
  clear HB
  obtain ⟨k0, k1, k2, k3, kl⟩ := HA.out.cells
  go_wp2_with fail
  refine (fault_any r oa 6 2 2 _ hn0 (HTT.out _ HA.out.low).1 (HTT.out _ HA.out.low).2 HA.out.tr).mono ?_
  rintro e v4 ⟨rfl, hb⟩
  rw [K3.out]
  have HB := Lib.hid ((HA.out.on hb).on (below_alloc1 v4 (.cells #[.int .i64 (31), .int .i64 (54)] 33)))
  have HYa := Lib.hid (Box.new (g := v4.heap.size) #[.int .i64 (31), .int .i64 (54)] 33 v4 rfl)
  clear HA k0 k1 k2 k3 kl hb 
  go_upto_region 5 with fail
  obtain ⟨Ga, hG⟩ : ∃ g, g = v4.heap.size := ⟨_, rfl⟩
  obtain ⟨X4, hW⟩ : ∃ X, X = v4.alloc (.cells #[.int .i64 (31), .int .i64 (54)] 33) := ⟨_, rfl⟩
  rw [← hW] at HB  HYa ⊢
  rw [← hG] at HYa ⊢
  clear hG
  clear hW
  have HA := HB
  clear HB
  have HXa := HYa
  clear HYa
  obtain ⟨k0, k1, k2, k3, kl⟩ := HA.out.cells
  go_wp2_with fail
  refine (error_any r oa 6 2 1 _ hn0 (HTT.out _ HA.out.low).1 (HTT.out _ HA.out.low).2 HA.out.tr).mono ?_
  rintro e v5 ⟨rfl, hb⟩
  rw [K4.out]
  have HB := Lib.hid ((HA.out.on hb).on (below_alloc1 v5 (.cells #[.int .i64 (-60), .int .i64 (-39)] 33)))
  have HYa := Lib.hid ((HXa.out.below hb).below (below_alloc1 v5 (.cells #[.int .i64 (-60), .int .i64 (-39)] 33)))
  have HYb := Lib.hid (Box.new (g := v5.heap.size) #[.int .i64 (-60), .int .i64 (-39)] 33 v5 rfl)
  clear HA k0 k1 k2 k3 kl hb HXa
  go_upto_region 6 with fail
  obtain ⟨Gb, hG⟩ : ∃ g, g = v5.heap.size := ⟨_, rfl⟩
  obtain ⟨X5, hW⟩ : ∃ X, X = v5.alloc (.cells #[.int .i64 (-60), .int .i64 (-39)] 33) := ⟨_, rfl⟩
  rw [← hW] at HB HYa HYb ⊢
  rw [← hG] at HYb ⊢
  clear hG
  clear hW
  have HA := HB
  clear HB
  have HXa := HYa
  clear HYa
  have HXb := HYb
  clear HYb
  obtain ⟨k0, k1, k2, k3, kl⟩ := HA.out.cells
  go_wp2_with fail
  refine (clash_any r oa 6 0 _ hn0 (HTT.out _ HA.out.low).1 (HTT.out _ HA.out.low).2 HA.out.tr).mono ?_
  rintro e v6 hcp
  obtain ⟨hb, v, rfl, hown⟩ := K5.out _ _ _ hcp
  clear hcp
  obtain ⟨oc, cc, rfl, hints, -⟩ := owns_list hown
  have HYc := Lib.hid hints
  clear hints hown
  have HB := Lib.hid (HA.out.on hb)
  have HYa := Lib.hid (HXa.out.below hb)
  have HYb := Lib.hid (HXb.out.below hb)
  clear HA k0 k1 k2 k3 kl hb HXa HXb
  go_upto_region 7 with fail
  obtain ⟨X6, hW⟩ : ∃ X, X = v6 := ⟨_, rfl⟩
  rw [← hW] at HB HYa HYb HYc ⊢
  clear hW
  have HA := HB
  clear HB
  have HXa := HYa
  clear HYa
  have HXb := HYb
  clear HYb
  have HXc := HYc
  clear HYc
  obtain ⟨k0, k1, k2, k3, kl⟩ := HA.out.cells
  go_wp2_with fail
  refine (clash_any r oa 6 (-1) _ hn0 (HTT.out _ HA.out.low).1 (HTT.out _ HA.out.low).2 HA.out.tr).mono ?_
  rintro e v7 hcp
  obtain ⟨hb, v, rfl, hown⟩ := K6.out _ _ _ hcp
  clear hcp
  obtain ⟨od, cd, rfl, hints, -⟩ := owns_list hown
  have HYd := Lib.hid hints
  clear hints hown
  have HB := Lib.hid (HA.out.on hb)
  have HYa := Lib.hid (HXa.out.below hb)
  have HYb := Lib.hid (HXb.out.below hb)
  have HYc := Lib.hid (HXc.out.mono hb)
  clear HA k0 k1 k2 k3 kl hb HXa HXb HXc
  go_upto_region 8 with fail
  obtain ⟨X7, hW⟩ : ∃ X, X = v7 := ⟨_, rfl⟩
  rw [← hW] at HB HYa HYb HYc HYd ⊢
  clear hW
  have HA := HB
  clear HB
  have HXa := HYa
  clear HYa
  have HXb := HYb
  clear HYb
  have HXc := HYc
  clear HYc
  have HXd := HYd
  clear HYd
  have hCC : ∀ A B : World, Below X7.heap.size X7 A → Below A.heap.size A B → Below X7.heap.size X7 B := fun A B h1 h2 => h1.trans (h2.mono h1.size)
  have hC0 : Below X7.heap.size X7 X7.drew := (Below.refl _ _).drew
  refine wp_region_garb (fun A => Below X7.heap.size X7 A) (by kernel_rfl) ?_
  (refine wpAnyG_take (i := 0) hCC hC0 rfl (by kernel_rfl) (by kernel_rfl) (by kernel_rfl) (fun _ _ _ _ h => h) (by rfl) ?_; apply Exists.intro; refine ⟨fun w1 h1 K hK => ?_, ?_⟩; · ( go_big_quiet_op; first | exact hK | fail))
  (refine wpAnyG_take (i := 1) hCC hC0 rfl (by kernel_rfl) (by kernel_rfl) (by kernel_rfl) (fun _ _ _ _ h => h) (by rfl) ?_; apply Exists.intro; refine ⟨fun w1 h1 K hK => ?_, ?_⟩; · ( go_big_quiet_op; first | exact hK | fail))
  (refine wpAnyG_take (i := 2) hCC hC0 rfl (by kernel_rfl) (by kernel_rfl) (by kernel_rfl) (fun _ _ _ _ h => h) (by rfl) ?_; apply Exists.intro; refine ⟨fun w1 h1 K hK => ?_, ?_⟩; · ( go_big_quiet_op; first | exact hK | fail))
  (refine wpAnyG_take (i := 3) hCC hC0 rfl (by kernel_rfl) (by kernel_rfl) (by kernel_rfl) (fun _ _ _ _ h => h) (by rfl) ?_; apply Exists.intro; refine ⟨fun w1 h1 K hK => ?_, ?_⟩; · ( go_big_quiet_op; first | exact hK | fail))
  (refine wpAnyG_take (i := 4) hCC hC0 rfl (by kernel_rfl) (by kernel_rfl) (by kernel_rfl) (fun _ _ _ _ h => h) (by rfl) ?_; apply Exists.intro; refine ⟨fun w1 h1 K hK => ?_, ?_⟩; · ( go_big_quiet_op; first | exact hK | fail))
  (refine wpAnyG_take (i := 5) hCC hC0 rfl (by kernel_rfl) (by kernel_rfl) (by kernel_rfl) (fun _ _ _ _ h => h) (by rfl) ?_; apply Exists.intro; refine ⟨fun w1 h1 K hK => ?_, ?_⟩; · ( go_big_quiet_op; first | exact hK | fail))
  (refine wpAnyG_take (i := 6) hCC hC0 rfl (by kernel_rfl) (by kernel_rfl) (by kernel_rfl) (fun _ _ _ _ h => h) (by rfl) ?_; apply Exists.intro; refine ⟨fun w1 h1 K hK => ?_, ?_⟩; · ( go_big_quiet_op; first | exact hK | fail))
  (refine wpAnyG_take (i := 7) hCC hC0 rfl (by kernel_rfl) (by kernel_rfl) (by kernel_rfl) (fun _ _ _ _ h => h) (by rfl) ?_; apply Exists.intro; refine ⟨fun w1 h1 K hK => ?_, ?_⟩; · ( go_big_quiet_op; first | exact hK | fail))
  (refine wpAnyG_take (i := 8) hCC hC0 rfl (by kernel_rfl) (by kernel_rfl) (by kernel_rfl) (fun _ _ _ _ h => h) (by rfl) ?_; apply Exists.intro; refine ⟨fun w1 h1 K hK => ?_, ?_⟩; · ( go_big_quiet_op; first | exact hK | fail))
  (refine wpAnyG_take (i := 9) hCC hC0 rfl (by kernel_rfl) (by kernel_rfl) (by kernel_rfl) (fun _ _ _ _ h => h) (by rfl) ?_; apply Exists.intro; refine ⟨fun w1 h1 K hK => ?_, ?_⟩; · ( go_big_quiet_op; first | exact hK | fail))
  (refine wpAnyG_take (i := 10) hCC hC0 rfl (by kernel_rfl) (by kernel_rfl) (by kernel_rfl) (fun _ _ _ _ h => h) (by rfl) ?_; apply Exists.intro; refine ⟨fun w1 h1 K hK => ?_, ?_⟩; · ( go_big_quiet_op; first | exact hK | fail))
  (refine wpAnyG_take (i := 11) hCC hC0 rfl (by kernel_rfl) (by kernel_rfl) (by kernel_rfl) (fun _ _ _ _ h => h) (by rfl) ?_; apply Exists.intro; refine ⟨fun w1 h1 K hK => ?_, ?_⟩; · ( go_big_quiet_op; first | exact hK | fail))
  (refine wpAnyG_take (i := 12) hCC hC0 rfl (by kernel_rfl) (by kernel_rfl) (by kernel_rfl) (fun _ _ _ _ h => h) (by rfl) ?_; apply Exists.intro; refine ⟨fun w1 h1 K hK => ?_, ?_⟩; · ( go_big_quiet_op; first | exact hK | fail))
  (refine wpAnyG_take (i := 13) hCC hC0 rfl (by kernel_rfl) (by kernel_rfl) (by kernel_rfl) (fun _ _ _ _ h => h) (by rfl) ?_; apply Exists.intro; refine ⟨fun w1 h1 K hK => ?_, ?_⟩; · ( go_big_quiet_op; first | exact hK | fail))
  (refine wpAnyG_take (i := 14) hCC hC0 rfl (by kernel_rfl) (by kernel_rfl) (by kernel_rfl) (fun _ _ _ _ h => h) (by rfl) ?_; apply Exists.intro; refine ⟨fun w1 h1 K hK => ?_, ?_⟩; · ( go_big_quiet_op; first | exact hK | fail))
  (refine wpAnyG_take (i := 15) hCC hC0 rfl (by kernel_rfl) (by kernel_rfl) (by kernel_rfl) (fun _ _ _ _ h => h) (by rfl) ?_; apply Exists.intro; refine ⟨fun w1 h1 K hK => ?_, ?_⟩; · (have q0 : ∀ W : Aft w1, W.val.cell? ⟨Ga, 0, none⟩ = some (.int .i64 (31)) := fun W => (HXa.out.below (hCC _ _ h1 W.below)).cell 0 rfl; have q1 : ∀ W : Aft w1, W.val.cell? ⟨Ga, 1, none⟩ = some (.int .i64 (54)) := fun W => (HXa.out.below (hCC _ _ h1 W.below)).cell 1 rfl; have q2 : ∀ W : Aft w1, Ga < W.val.heap.size := fun W => (HXa.out.below (hCC _ _ h1 W.below)).lt; go_big_quiet_op; first | exact hK | fail))
  (refine wpAnyG_take (i := 16) hCC hC0 rfl (by kernel_rfl) (by kernel_rfl) (by kernel_rfl) (fun _ _ _ _ h => h) (by rfl) ?_; apply Exists.intro; refine ⟨fun w1 h1 K hK => ?_, ?_⟩; · ( go_big_quiet_op; first | exact hK | exact ⟨_, fun W => aft_call (lspan_any _ _ _), hK⟩))
  (refine wpAnyG_take (i := 17) hCC hC0 rfl (by kernel_rfl) (by kernel_rfl) (by kernel_rfl) (fun _ _ _ _ h => h) (by rfl) ?_; apply Exists.intro; refine ⟨fun w1 h1 K hK => ?_, ?_⟩; · ( go_big_quiet_op; first | exact hK | fail))
  (refine wpAnyG_take (i := 18) hCC hC0 rfl (by kernel_rfl) (by kernel_rfl) (by kernel_rfl) (fun _ _ _ _ h => h) (by rfl) ?_; apply Exists.intro; refine ⟨fun w1 h1 K hK => ?_, ?_⟩; · ( go_big_quiet_op; first | exact hK | fail))
  (refine wpAnyG_take (i := 19) hCC hC0 rfl (by kernel_rfl) (by kernel_rfl) (by kernel_rfl) (fun _ _ _ _ h => h) (by rfl) ?_; apply Exists.intro; refine ⟨fun w1 h1 K hK => ?_, ?_⟩; · ( go_big_quiet_op; first | exact hK | fail))
  (refine wpAnyG_take (i := 20) hCC hC0 rfl (by kernel_rfl) (by kernel_rfl) (by kernel_rfl) (fun _ _ _ _ h => h) (by rfl) ?_; apply Exists.intro; refine ⟨fun w1 h1 K hK => ?_, ?_⟩; · ( go_big_quiet_op; first | exact hK | fail))
  (refine wpAnyG_take (i := 21) hCC hC0 rfl (by kernel_rfl) (by kernel_rfl) (by kernel_rfl) (fun _ _ _ _ h => h) (by rfl) ?_; apply Exists.intro; refine ⟨fun w1 h1 K hK => ?_, ?_⟩; · ( go_big_quiet_op; first | exact hK | fail))
  (refine wpAnyG_take (i := 22) hCC hC0 rfl (by kernel_rfl) (by kernel_rfl) (by kernel_rfl) (fun _ _ _ _ h => h) (by rfl) ?_; apply Exists.intro; refine ⟨fun w1 h1 K hK => ?_, ?_⟩; · ( go_big_quiet_op; first | exact hK | fail))
  (refine wpAnyG_take (i := 23) hCC hC0 rfl (by kernel_rfl) (by kernel_rfl) (by kernel_rfl) (fun _ _ _ _ h => h) (by rfl) ?_; apply Exists.intro; refine ⟨fun w1 h1 K hK => ?_, ?_⟩; · ( go_big_quiet_op; first | exact hK | fail))
  (refine wpAnyG_take (i := 24) hCC hC0 rfl (by kernel_rfl) (by kernel_rfl) (by kernel_rfl) (fun _ _ _ _ h => h) (by rfl) ?_; apply Exists.intro; refine ⟨fun w1 h1 K hK => ?_, ?_⟩; · (have q0 : ∀ W : Aft w1, W.val.cell? ⟨Gb, 0, none⟩ = some (.int .i64 (-60)) := fun W => (HXb.out.below (hCC _ _ h1 W.below)).cell 0 rfl; have q1 : ∀ W : Aft w1, W.val.cell? ⟨Gb, 1, none⟩ = some (.int .i64 (-39)) := fun W => (HXb.out.below (hCC _ _ h1 W.below)).cell 1 rfl; have q2 : ∀ W : Aft w1, Gb < W.val.heap.size := fun W => (HXb.out.below (hCC _ _ h1 W.below)).lt; go_big_quiet_op; first | exact hK | fail))
  (refine wpAnyG_take (i := 25) hCC hC0 rfl (by kernel_rfl) (by kernel_rfl) (by kernel_rfl) (fun _ _ _ _ h => h) (by rfl) ?_; apply Exists.intro; refine ⟨fun w1 h1 K hK => ?_, ?_⟩; · ( go_big_quiet_op; first | exact hK | exact ⟨_, fun W => aft_call (lspan_any _ _ _), hK⟩))
  (refine wpAnyG_take (i := 26) hCC hC0 rfl (by kernel_rfl) (by kernel_rfl) (by kernel_rfl) (fun _ _ _ _ h => h) (by rfl) ?_; apply Exists.intro; refine ⟨fun w1 h1 K hK => ?_, ?_⟩; · ( go_big_quiet_op; first | exact hK | fail))
  (refine wpAnyG_take (i := 27) hCC hC0 rfl (by kernel_rfl) (by kernel_rfl) (by kernel_rfl) (fun _ _ _ _ h => h) (by rfl) ?_; apply Exists.intro; refine ⟨fun w1 h1 K hK => ?_, ?_⟩; · ( go_big_quiet_op; first | exact hK | fail))
  (refine wpAnyG_take (i := 28) hCC hC0 rfl (by kernel_rfl) (by kernel_rfl) (by kernel_rfl) (fun _ _ _ _ h => h) (by rfl) ?_; apply Exists.intro; refine ⟨fun w1 h1 K hK => ?_, ?_⟩; · ( go_big_quiet_op; first | exact hK | fail))
  (refine wpAnyG_take (i := 29) hCC hC0 rfl (by kernel_rfl) (by kernel_rfl) (by kernel_rfl) (fun _ _ _ _ h => h) (by rfl) ?_; apply Exists.intro; refine ⟨fun w1 h1 K hK => ?_, ?_⟩; · ( go_big_quiet_op; first | exact hK | fail))
  (refine wpAnyG_take (i := 30) hCC hC0 rfl (by kernel_rfl) (by kernel_rfl) (by kernel_rfl) (fun _ _ _ _ h => h) (by rfl) ?_; apply Exists.intro; refine ⟨fun w1 h1 K hK => ?_, ?_⟩; · ( go_big_quiet_op; first | exact hK | fail))
  (refine wpAnyG_take (i := 31) hCC hC0 rfl (by kernel_rfl) (by kernel_rfl) (by kernel_rfl) (fun _ _ _ _ h => h) (by rfl) ?_; apply Exists.intro; refine ⟨fun w1 h1 K hK => ?_, ?_⟩; · ( go_big_quiet_op; first | exact hK | fail))
  (refine wpAnyG_take (i := 32) hCC hC0 rfl (by kernel_rfl) (by kernel_rfl) (by kernel_rfl) (fun _ _ _ _ h => h) (by rfl) ?_; apply Exists.intro; refine ⟨fun w1 h1 K hK => ?_, ?_⟩; · ( go_big_quiet_op; first | exact hK | fail))
  (refine wpAnyG_take (i := 33) hCC hC0 rfl (by kernel_rfl) (by kernel_rfl) (by kernel_rfl) (fun _ _ _ _ h => h) (by rfl) ?_; apply Exists.intro; refine ⟨fun w1 h1 K hK => ?_, ?_⟩; · ( go_big_quiet_op; first | exact hK | fail))
  have HSB34 := Lib.hid (show sameB ([1, 2] : List Int).length 2 (fun i => ([1, 2] : List Int).getD i 0) (fun i => ([1, 2] : List Int).getD i 0) = true from by kernel_rfl)
  (refine wpAnyG_one (i := 34) (by kernel_rfl) rfl (by rfl) (fun wa34 hwa34 K hK => ?_))
  go_simp
  have hA34 := (hCC _ _ hC0 hwa34).alloc (by have := hC0.size; have := hwa34.size; omega) (.cells #[.int .i64 1, .int .i64 2] 3)
  refine hK _ _ hA34 ?_
  clear hK K
  have hI34 : IntsAt (wa34.alloc (.cells #[.int .i64 1, .int .i64 2] 3)) (some ⟨wa34.heap.size, 0, none⟩) 2 (fun i => ([1, 2] : List Int).getD i 0) := by
    have z9 := Box.new (g := wa34.heap.size) #[.int .i64 1, .int .i64 2] 3 wa34 rfl
    intro i hi
    refine ⟨_, 0, rfl, z9.lt, ?_⟩
    rcases (by omega : i = 0 ∨ i = 1) with rfl | rfl
    · exact z9.cell 0 rfl
    · exact z9.cell 1 rfl
  obtain ⟨wA34, hW⟩ : ∃ X, X = wa34.alloc (.cells #[.int .i64 1, .int .i64 2] 3) := ⟨_, rfl⟩
  rw [← hW] at hA34 hI34 ⊢
  clear hW
  (refine wpAnyG_one (i := 35) (by kernel_rfl) rfl (by rfl) (fun wb35 hwb35 K hK => ?_))
  go_simp
  refine (ints_any oc _ _ _ _ _ _ _ _ (by simp) (by simp) (HXc.out.mono (hCC _ _ hA34 hwb35)) (hI34.mono hwb35)).mono ?_
  rintro e wc35 ⟨rfl, hbc⟩
  have hC9 := hCC _ _ (hCC _ _ hA34 hwb35) hbc
  refine hK _ _ hC9 ?_
  clear hK K hA34 hI34 hwa34 hwb35 hbc hC0
  have hC0 := hC9
  clear hC9
  rw [HSB34.out]
  (refine wpAnyG_take (i := 36) hCC hC0 rfl (by kernel_rfl) (by kernel_rfl) (by kernel_rfl) (fun _ _ _ _ h => h) (by rfl) ?_; apply Exists.intro; refine ⟨fun w1 h1 K hK => ?_, ?_⟩; · ( go_big_quiet_op; first | exact hK | fail))
  (refine wpAnyG_take (i := 37) hCC hC0 rfl (by kernel_rfl) (by kernel_rfl) (by kernel_rfl) (fun _ _ _ _ h => h) (by rfl) ?_; apply Exists.intro; refine ⟨fun w1 h1 K hK => ?_, ?_⟩; · ( go_big_quiet_op; first | exact hK | fail))
  (refine wpAnyG_take (i := 38) hCC hC0 rfl (by kernel_rfl) (by kernel_rfl) (by kernel_rfl) (fun _ _ _ _ h => h) (by rfl) ?_; apply Exists.intro; refine ⟨fun w1 h1 K hK => ?_, ?_⟩; · ( go_big_quiet_op; first | exact hK | fail))
  (refine wpAnyG_take (i := 39) hCC hC0 rfl (by kernel_rfl) (by kernel_rfl) (by kernel_rfl) (fun _ _ _ _ h => h) (by rfl) ?_; apply Exists.intro; refine ⟨fun w1 h1 K hK => ?_, ?_⟩; · ( go_big_quiet_op; first | exact hK | fail))
  (refine wpAnyG_take (i := 40) hCC hC0 rfl (by kernel_rfl) (by kernel_rfl) (by kernel_rfl) (fun _ _ _ _ h => h) (by rfl) ?_; apply Exists.intro; refine ⟨fun w1 h1 K hK => ?_, ?_⟩; · ( go_big_quiet_op; first | exact hK | fail))
  (refine wpAnyG_take (i := 41) hCC hC0 rfl (by kernel_rfl) (by kernel_rfl) (by kernel_rfl) (fun _ _ _ _ h => h) (by rfl) ?_; apply Exists.intro; refine ⟨fun w1 h1 K hK => ?_, ?_⟩; · ( go_big_quiet_op; first | exact hK | fail))
  (refine wpAnyG_take (i := 42) hCC hC0 rfl (by kernel_rfl) (by kernel_rfl) (by kernel_rfl) (fun _ _ _ _ h => h) (by rfl) ?_; apply Exists.intro; refine ⟨fun w1 h1 K hK => ?_, ?_⟩; · ( go_big_quiet_op; first | exact hK | fail))
  have HSB43 := Lib.hid (show sameB ([0, 2] : List Int).length 2 (fun i => ([0, 2] : List Int).getD i 0) (fun i => ([0, 2] : List Int).getD i 0) = true from by kernel_rfl)
  (refine wpAnyG_one (i := 43) (by kernel_rfl) rfl (by rfl) (fun wa43 hwa43 K hK => ?_))
  go_simp
  have hA43 := (hCC _ _ hC0 hwa43).alloc (by have := hC0.size; have := hwa43.size; omega) (.cells #[.int .i64 0, .int .i64 2] 3)
  refine hK _ _ hA43 ?_
  clear hK K
  have hI43 : IntsAt (wa43.alloc (.cells #[.int .i64 0, .int .i64 2] 3)) (some ⟨wa43.heap.size, 0, none⟩) 2 (fun i => ([0, 2] : List Int).getD i 0) := by
    have z9 := Box.new (g := wa43.heap.size) #[.int .i64 0, .int .i64 2] 3 wa43 rfl
    intro i hi
    refine ⟨_, 0, rfl, z9.lt, ?_⟩
    rcases (by omega : i = 0 ∨ i = 1) with rfl | rfl
    · exact z9.cell 0 rfl
    · exact z9.cell 1 rfl
  obtain ⟨wA43, hW⟩ : ∃ X, X = wa43.alloc (.cells #[.int .i64 0, .int .i64 2] 3) := ⟨_, rfl⟩
  rw [← hW] at hA43 hI43 ⊢
  clear hW
  (refine wpAnyG_one (i := 44) (by kernel_rfl) rfl (by rfl) (fun wb44 hwb44 K hK => ?_))
  go_simp
  refine (ints_any od _ _ _ _ _ _ _ _ (by simp) (by simp) (HXd.out.mono (hCC _ _ hA43 hwb44)) (hI43.mono hwb44)).mono ?_
  rintro e wc44 ⟨rfl, hbc⟩
  have hC9 := hCC _ _ (hCC _ _ hA43 hwb44) hbc
  refine hK _ _ hC9 ?_
  clear hK K hA43 hI43 hwa43 hwb44 hbc hC0
  have hC0 := hC9
  clear hC9
  rw [HSB43.out]
  (refine wpAnyG_take (i := 45) hCC hC0 rfl (by kernel_rfl) (by kernel_rfl) (by kernel_rfl) (fun _ _ _ _ h => h) (by rfl) ?_; apply Exists.intro; refine ⟨fun w1 h1 K hK => ?_, ?_⟩; · ( go_big_quiet_op; first | exact hK | fail))
  (refine wpAnyG_take (i := 46) hCC hC0 rfl (by kernel_rfl) (by kernel_rfl) (by kernel_rfl) (fun _ _ _ _ h => h) (by rfl) ?_; apply Exists.intro; refine ⟨fun w1 h1 K hK => ?_, ?_⟩; · ( go_big_quiet_op; first | exact hK | fail))
  (refine wpAnyG_take (i := 47) hCC hC0 rfl (by kernel_rfl) (by kernel_rfl) (by kernel_rfl) (fun _ _ _ _ h => h) (by rfl) ?_; apply Exists.intro; refine ⟨fun w1 h1 K hK => ?_, ?_⟩; · ( go_big_quiet_op; first | exact hK | fail))
  (refine wpAnyG_take (i := 48) hCC hC0 rfl (by kernel_rfl) (by kernel_rfl) (by kernel_rfl) (fun _ _ _ _ h => h) (by rfl) ?_; apply Exists.intro; refine ⟨fun w1 h1 K hK => ?_, ?_⟩; · ( go_big_quiet_op; first | exact hK | fail))
  (refine wpAnyG_take (i := 49) hCC hC0 rfl (by kernel_rfl) (by kernel_rfl) (by kernel_rfl) (fun _ _ _ _ h => h) (by rfl) ?_; apply Exists.intro; refine ⟨fun w1 h1 K hK => ?_, ?_⟩; · ( go_big_quiet_op; first | exact hK | fail))
  (refine wpAnyG_one (i := 50) (by kernel_rfl) rfl (by rfl) (fun wy hwy K hK => ?_))
  go_simp
  refine hK _ _ (hCC _ _ hC0 hwy) ?_
  clear hK K
  refine wpAnyG_done (by kernel_rfl) (fun wz hwz => ?_) _
  have HZ := Lib.hid (HA.out.low.trans ((hCC _ _ (hCC _ _ hC0 hwy) hwz).mono HA.out.low.size))
  clear hC0 hCC hwy hwz
  go_wp2_with fail
  go_ret
  exact ⟨rfl, HZ.out⟩
end Go.Proofs.YtldodmfmibeoiaaDoor
