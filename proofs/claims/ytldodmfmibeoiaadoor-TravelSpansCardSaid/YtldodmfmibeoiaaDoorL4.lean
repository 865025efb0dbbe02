/- TravelSpans returns true. -/
import Derived.Test.YtldodmfmibeoiaaDoorR6
import Derived.Test.YtldodmfmibeoiaaDoorL3
namespace Go.Proofs.YtldodmfmibeoiaaDoor
open Go.RowKit
set_option maxRecDepth 100000 in
set_option maxHeartbeats 40000000 in
theorem travelSpans_any (r : Rnd) (oa : Option Addr) (ca : Nat) (off bench meter : Int) (w : World) (hR : TrpsAt w oa r.n r.t) (hT : TabAt 1 Lib.deBruijn64tab w) (h1 : 1 < w.heap.size) (hn63 : r.n ≤ 9223372036854775807) :
    Calls Tryd.prog 4 #[r.val oa ca, .int .i64 off, .int .i64 bench, .int .i64 meter] w fun e w' => e = .returned (.bool true) ∧ Below w.heap.size w w' := by
  have I0 := Lib.hid (Vr.start (ca := ca) hR hT h1)
  clear hR hT
  go_enter Tryd.func4, Tryd.ntmps4
  go_upto_region 1 with fail
  obtain ⟨g, hG⟩ : ∃ G, G = w.heap.size := ⟨_, rfl⟩
  obtain ⟨X2, hW⟩ : ∃ X, X = w.alloc (.cells #[.int .i64 r.nb, .int .i64 r.nm, .int .i64 r.most, .slice oa r.n ca] 24) := ⟨_, rfl⟩
  rw [← hW] at I0 ⊢
  rw [← hG] at I0 ⊢
  replace I0 := Lib.hid (show Vr r w oa ca g X2 by rw [hG]; rw [hG] at I0; exact I0.out)
  clear hG hW
  obtain ⟨c0, c1, c2, c3, c4⟩ := I0.out.cells
  by_cases h18 : 18 < r.n
  · have z : decide (18 < (r.n : Int)) = true := by simp; omega
    have z2 : decide ((r.n : Int) > 18) = true := by simp; omega
    go_wp2_with fail
    refine (awake_any _ I0.out.tt I0.out.t1).mono ?_
    rintro e X3 ⟨rfl, hb⟩
    have HF := Lib.hid (I0.out.on hb).low
    go_wp2_with fail
    go_ret
    exact ⟨rfl, HF.out⟩
  have z : decide (18 < (r.n : Int)) = false := by simp; omega
  have z2 : decide ((r.n : Int) > 18) = false := by simp; omega
  have hn : r.n ≤ 1000000 := by omega
  go_wp2_with fail
  refine (fault_any r oa ca off bench _ hn I0.out.tt I0.out.t1 I0.out.tr).mono ?_
  rintro e X3 ⟨rfl, hb⟩
  have I1 := Lib.hid (I0.out.on hb)
  have HD := Lib.hid (fun (W : World) (h : TrpsAt W oa r.n r.t) => dfault_any r oa ca off bench W hn h)
  obtain ⟨S, hS⟩ : ∃ q, q = r.fault off bench := ⟨_, rfl⟩
  rw [← hS] at HD ⊢
  clear I0 c0 c1 c2 c3 c4 hb hS z z2 h18
  obtain ⟨sa, sb, se⟩ := S
  obtain ⟨c0, c1, c2, c3, c4⟩ := I1.out.cells
  go_upto_region 4 with fail
  have hbl := below_alloc1 X3 (.cells #[.int .i64 sa, .int .i64 sb] 33)
  have Z1 := Lib.hid (Box.new (g := X3.heap.size) #[.int .i64 sa, .int .i64 sb] 33 X3 rfl)
  have I2 := Lib.hid (I1.out.on hbl)
  obtain ⟨g1, hG⟩ : ∃ G, G = X3.heap.size := ⟨_, rfl⟩
  obtain ⟨Y3, hW⟩ : ∃ X, X = X3.alloc (.cells #[.int .i64 sa, .int .i64 sb] 33) := ⟨_, rfl⟩
  rw [← hW] at Z1  I2 ⊢
  rw [← hG] at Z1 ⊢
  clear hG hW hbl I1 c0 c1 c2 c3 c4
  obtain ⟨c0, c1, c2, c3, c4⟩ := I2.out.cells
  go_wp2_with fail
  refine (HD.out _ I2.out.tr).mono ?_
  rintro e X4 ⟨rfl, hb⟩
  have I3 := Lib.hid (I2.out.on hb)
  replace Z1 := Lib.hid (Z1.out.below hb)
  clear I2 c0 c1 c2 c3 c4 hb
  obtain ⟨c0, c1, c2, c3, c4⟩ := I3.out.cells
  clear HD
  go_upto_region 5 with fail
  have hbl := below_alloc1 X4 (.cells #[.int .i64 sa, .int .i64 sb] 33)
  have Z2 := Lib.hid (Box.new (g := X4.heap.size) #[.int .i64 sa, .int .i64 sb] 33 X4 rfl)
  replace Z1 := Lib.hid (Z1.out.below hbl)
  have I4 := Lib.hid (I3.out.on hbl)
  obtain ⟨g2, hG⟩ : ∃ G, G = X4.heap.size := ⟨_, rfl⟩
  obtain ⟨Y4, hW⟩ : ∃ X, X = X4.alloc (.cells #[.int .i64 sa, .int .i64 sb] 33) := ⟨_, rfl⟩
  rw [← hW] at Z2 Z1 I4 ⊢
  rw [← hG] at Z2 ⊢
  clear hG hW hbl I3 c0 c1 c2 c3 c4
  obtain ⟨c0, c1, c2, c3, c4⟩ := I4.out.cells
  go_wp2_with fail
  refine (error_any r oa ca off meter _ hn I4.out.tt I4.out.t1 I4.out.tr).mono ?_
  rintro e X5 ⟨rfl, hb⟩
  have I5 := Lib.hid (I4.out.on hb)
  replace Z1 := Lib.hid (Z1.out.below hb)
  replace Z2 := Lib.hid (Z2.out.below hb)
  have HD := Lib.hid (fun (W : World) (h : TrpsAt W oa r.n r.t) => derror_any r oa ca off meter W hn h)
  obtain ⟨S, hS⟩ : ∃ q, q = r.error off meter := ⟨_, rfl⟩
  rw [← hS] at HD ⊢
  clear I4 c0 c1 c2 c3 c4 hb hS
  obtain ⟨ta, tb, te⟩ := S
  obtain ⟨c0, c1, c2, c3, c4⟩ := I5.out.cells
  go_upto_region 6 with fail
  have hbl := below_alloc1 X5 (.cells #[.int .i64 ta, .int .i64 tb] 33)
  have Z3 := Lib.hid (Box.new (g := X5.heap.size) #[.int .i64 ta, .int .i64 tb] 33 X5 rfl)
  replace Z1 := Lib.hid (Z1.out.below hbl)
  replace Z2 := Lib.hid (Z2.out.below hbl)
  have I6 := Lib.hid (I5.out.on hbl)
  obtain ⟨g3, hG⟩ : ∃ G, G = X5.heap.size := ⟨_, rfl⟩
  obtain ⟨Y5, hW⟩ : ∃ X, X = X5.alloc (.cells #[.int .i64 ta, .int .i64 tb] 33) := ⟨_, rfl⟩
  rw [← hW] at Z3 Z1 Z2 I6 ⊢
  rw [← hG] at Z3 ⊢
  clear hG hW hbl I5 c0 c1 c2 c3 c4
  obtain ⟨c0, c1, c2, c3, c4⟩ := I6.out.cells
  go_wp2_with fail
  refine (HD.out _ I6.out.tr).mono ?_
  rintro e X6 ⟨rfl, hb⟩
  have I7 := Lib.hid (I6.out.on hb)
  replace Z1 := Lib.hid (Z1.out.below hb)
  replace Z2 := Lib.hid (Z2.out.below hb)
  replace Z3 := Lib.hid (Z3.out.below hb)
  clear I6 c0 c1 c2 c3 c4 hb
  obtain ⟨c0, c1, c2, c3, c4⟩ := I7.out.cells
  clear HD
  go_upto_region 7 with fail
  have hbl := below_alloc1 X6 (.cells #[.int .i64 ta, .int .i64 tb] 33)
  have Z4 := Lib.hid (Box.new (g := X6.heap.size) #[.int .i64 ta, .int .i64 tb] 33 X6 rfl)
  replace Z1 := Lib.hid (Z1.out.below hbl)
  replace Z2 := Lib.hid (Z2.out.below hbl)
  replace Z3 := Lib.hid (Z3.out.below hbl)
  have I8 := Lib.hid (I7.out.on hbl)
  obtain ⟨g4, hG⟩ : ∃ G, G = X6.heap.size := ⟨_, rfl⟩
  obtain ⟨Y6, hW⟩ : ∃ X, X = X6.alloc (.cells #[.int .i64 ta, .int .i64 tb] 33) := ⟨_, rfl⟩
  rw [← hW] at Z4 Z1 Z2 Z3 I8 ⊢
  rw [← hG] at Z4 ⊢
  clear hG hW hbl I7 c0 c1 c2 c3 c4
  obtain ⟨c0, c1, c2, c3, c4⟩ := I8.out.cells
  clear c0 c1 c2 c3 c4
  have d10 := Z1.out.cell 0 (v := .int .i64 sa) rfl
  have d11 := Z1.out.cell 1 (v := .int .i64 sb) rfl
  have d12 := Z1.out.lt
  have d20 := Z2.out.cell 0 (v := .int .i64 sa) rfl
  have d21 := Z2.out.cell 1 (v := .int .i64 sb) rfl
  have d22 := Z2.out.lt
  have d30 := Z3.out.cell 0 (v := .int .i64 ta) rfl
  have d31 := Z3.out.cell 1 (v := .int .i64 tb) rfl
  have d32 := Z3.out.lt
  have d40 := Z4.out.cell 0 (v := .int .i64 ta) rfl
  have d41 := Z4.out.cell 1 (v := .int .i64 tb) rfl
  have d42 := Z4.out.lt
  have z1 : (sa == sa) = true := by simp
  have z2 : (sb == sb) = true := by simp
  have z3 : (se == se) = true := by simp
  have z4 : (ta == ta) = true := by simp
  have z5 : (tb == tb) = true := by simp
  have z6 : (te == te) = true := by simp
  go_wp2_with fail
  refine (awake_any _ I8.out.tt I8.out.t1).mono ?_
  rintro e X7 ⟨rfl, hb⟩
  have HF := Lib.hid (I8.out.on hb).low
  clear d10 d11 d12 d20 d21 d22 d30 d31 d32 d40 d41 d42
  go_wp2_with fail
  go_ret
  exact ⟨rfl, HF.out⟩
end Go.Proofs.YtldodmfmibeoiaaDoor
