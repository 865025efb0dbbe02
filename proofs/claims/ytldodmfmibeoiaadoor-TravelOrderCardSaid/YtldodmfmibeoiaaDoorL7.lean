/- TravelEnds returns true. -/
import Derived.Test.YtldodmfmibeoiaaDoorP5
namespace Go.Proofs.YtldodmfmibeoiaaDoor
open Go.RowKit
/-- what TravelEnds keeps -/
structure Ew (r : Rnd) (w : World) (oa : Option Addr) (ca : Nat) (off bench : Int) (g3 g4 g5 : Nat) (W : World) : Prop where
  low : Below w.heap.size w W
  b3 : Box g3 #[.int .i64 r.nb, .int .i64 r.nm, .int .i64 r.most, .slice oa r.n ca] 24 W
  b4 : Box g4 #[.int .i64 off] 3 W
  b5 : Box g5 #[.int .i64 bench] 3 W
  tr : TrpsAt W oa r.n r.t
  tt : TabAt 1 Lib.deBruijn64tab W
  t1 : 1 < W.heap.size
theorem Ew.on {r : Rnd} {w : World} {oa : Option Addr} {ca : Nat} {off bench : Int} {g3 g4 g5 : Nat} {W W' : World} (h : Ew r w oa ca off bench g3 g4 g5 W) (hb : Below W.heap.size W W') : Ew r w oa ca off bench g3 g4 g5 W' :=
  ⟨h.low.trans (hb.mono h.low.size), h.b3.below hb, h.b4.below hb, h.b5.below hb, h.tr.mono hb, tab_below h.tt h.t1 hb, Nat.lt_of_lt_of_le h.t1 hb.size⟩
theorem Ew.cells {r : Rnd} {w : World} {oa : Option Addr} {ca : Nat} {off bench : Int} {g3 g4 g5 : Nat} {W : World} (h : Ew r w oa ca off bench g3 g4 g5 W) : (W.cell? ⟨g3, 0, none⟩ = some (.int .i64 r.nb) ∧ W.cell? ⟨g3, 1, none⟩ = some (.int .i64 r.nm) ∧ W.cell? ⟨g3, 2, none⟩ = some (.int .i64 r.most) ∧ W.cell? ⟨g3, 3, none⟩ = some (.slice oa r.n ca)) ∧ W.cell? ⟨g4, 0, none⟩ = some (.int .i64 off) ∧ W.cell? ⟨g5, 0, none⟩ = some (.int .i64 bench) ∧ g3 < W.heap.size ∧ g4 < W.heap.size ∧ g5 < W.heap.size :=
  ⟨⟨h.b3.cell 0 rfl, h.b3.cell 1 rfl, h.b3.cell 2 rfl, h.b3.cell 3 rfl⟩, h.b4.cell 0 rfl, h.b5.cell 0 rfl, h.b3.lt, h.b4.lt, h.b5.lt⟩
set_option maxRecDepth 100000 in
set_option maxHeartbeats 8000000 in
theorem travelEnds_any (r : Rnd) (oa : Option Addr) (ca : Nat) (off bench : Int) (w : World) (hA : TrpsAt w oa r.n r.t) (hT : TabAt 1 Lib.deBruijn64tab w) (hw1 : 1 < w.heap.size) (hnil : oa = none → r.n = 0 ∧ ca = 0) :
    Calls Tryd.prog 7 #[r.val oa ca, .int .i64 off, .int .i64 bench] w fun e w' => e = .returned (.bool true) ∧ Below w.heap.size w w' := by
  have HAW := Lib.hid (fun (W : World) (h : Below w.heap.size w W) => awake_any W (tab_below hT hw1 h) (Nat.lt_of_lt_of_le hw1 h.size))
  have HNIL := Lib.hid hnil
  have HTA := Lib.hid hT
  have HTR := Lib.hid hA
  have HW1 := Lib.hid hw1
  clear hA hT hw1 hnil
  go_enter Tryd.func7, Tryd.ntmps7
  go_upto_region 1 with fail
  have hb0 : Below w.heap.size w (((w.alloc (.cells #[.int .i64 r.nb, .int .i64 r.nm, .int .i64 r.most, .slice oa r.n ca] 24)).alloc (.cells #[.int .i64 off] 3)).alloc (.cells #[.int .i64 bench] 3)) := (by repeat' (first | exact Below.refl _ _ | assumption | apply below_drewN | apply Below.drew | (refine Below.alloc ?_ ?_ _) | (refine Below.setCell ?_ ?_ _) | (simp; done) | (simp; omega) | omega))
  have HA := Lib.hid (show Ew r w oa ca off bench w.heap.size (w.heap.size + 1) (w.heap.size + 1 + 1) (((w.alloc (.cells #[.int .i64 r.nb, .int .i64 r.nm, .int .i64 r.most, .slice oa r.n ca] 24)).alloc (.cells #[.int .i64 off] 3)).alloc (.cells #[.int .i64 bench] 3)) from
    ⟨hb0, ((Box.new _ _ w rfl).old _).old _, (Box.new _ _ _ (by simp)).old _, Box.new _ _ _ (by simp), HTR.out.mono hb0, tab_below HTA.out HW1.out hb0, Nat.lt_of_lt_of_le HW1.out hb0.size⟩)
  clear hb0 HTR HTA HW1
  obtain ⟨W, hW⟩ : ∃ X, X = (((w.alloc (.cells #[.int .i64 r.nb, .int .i64 r.nm, .int .i64 r.most, .slice oa r.n ca] 24)).alloc (.cells #[.int .i64 off] 3)).alloc (.cells #[.int .i64 bench] 3)) := ⟨_, rfl⟩
  rw [← hW] at HA ⊢
  clear hW
  obtain ⟨g5, hg5⟩ : ∃ G, G = w.heap.size + 1 + 1 := ⟨_, rfl⟩
  rw [← hg5] at HA ⊢
  obtain ⟨g4, hg4⟩ : ∃ G, G = w.heap.size + 1 := ⟨_, rfl⟩
  rw [← hg4] at HA ⊢
  obtain ⟨g3, hg3⟩ : ∃ G, G = w.heap.size := ⟨_, rfl⟩
  rw [← hg3]
  have HA : Hid (Ew r w oa ca off bench g3 g4 g5 W) := by rw [hg3]; exact HA
  clear hg3 hg4 hg5
  obtain ⟨⟨k0, k1, k2, k3⟩, k4, k5, l3, l4, l5⟩ := HA.out.cells
  by_cases h1 : 14 ≤ r.n
  · have z1 : decide (14 ≤ (r.n : Int)) = true := by simp; omega
    go_wp2_with fail
    refine (HAW.out _ HA.out.low).mono ?_
    rintro e wa ⟨rfl, hb⟩
    have HLA := Lib.hid (HA.out.low.trans (hb.mono HA.out.low.size))
    clear hb
    go_wp2_with fail
    go_ret
    exact ⟨rfl, HLA.out⟩
  have z1 : decide (14 ≤ (r.n : Int)) = false := by simp; omega
  have h1 : r.n < 14 := by omega
  by_cases h2 : 6 ≤ r.nm
  · have z2 : decide (6 ≤ r.nm) = true := by simp; omega
    go_wp2_with fail
    refine (HAW.out _ HA.out.low).mono ?_
    rintro e wa ⟨rfl, hb⟩
    have HLA := Lib.hid (HA.out.low.trans (hb.mono HA.out.low.size))
    clear hb
    go_wp2_with fail
    go_ret
    exact ⟨rfl, HLA.out⟩
  have z2 : decide (6 ≤ r.nm) = false := by simp; omega
  have h2 : r.nm < 6 := by omega
  have hn : r.n ≤ 1000000 := by omega
  have HLAW := Lib.hid (fun (hf : (r.fault off bench).e = 0) => ends_law hf h1 h2)
  have HZERO := Lib.hid (fun (hf : (r.fault off bench).e ≠ 0) => show (r.fault off bench).lo = 0 ∧ (r.fault off bench).hi = 0 from Rnd.tell_zero hf)
  obtain ⟨T, hTT⟩ : ∃ T, T = r.fault off bench := ⟨_, rfl⟩
  have HTT := Lib.hid hTT.symm
  rw [← hTT] at HLAW HZERO
  clear hTT
  go_wp2_with fail
  refine (fault_any r oa ca off bench _ hn HA.out.tt HA.out.t1 HA.out.tr).mono ?_
  rintro e W2 ⟨rfl, hb⟩
  rw [HTT.out]
  obtain ⟨sl, sh, se⟩ := T
  dsimp only at HLAW HZERO
  have HB := Lib.hid ((HA.out.on hb).on (below_alloc1 W2 (.cells #[.int .i64 sl, .int .i64 sh] 33)))
  have HS := Lib.hid (Box.new (g := W2.heap.size) #[.int .i64 sl, .int .i64 sh] 33 W2 rfl)
  clear HA k0 k1 k2 k3 k4 k5 l3 l4 l5 hb z1 z2
  go_upto_region 4 with fail
  obtain ⟨gs, hG⟩ : ∃ g, g = W2.heap.size := ⟨_, rfl⟩
  obtain ⟨X2, hX⟩ : ∃ X, X = W2.alloc (.cells #[.int .i64 sl, .int .i64 sh] 33) := ⟨_, rfl⟩
  rw [← hX] at HB HS ⊢
  rw [← hG] at HS ⊢
  clear hX hG
  have HA := HB
  clear HB
  have s0 := HS.out.cell 0 (v := .int .i64 sl) rfl
  have s1 := HS.out.cell 1 (v := .int .i64 sh) rfl
  have s2 := HS.out.lt
  by_cases he : se = 0
  · subst he
    obtain ⟨hv, hle, hbd, hwb⟩ := HLAW.out rfl
    have HV := Lib.hid hv
    have HWB := Lib.hid hwb
    have hm1 := (Rnd.valid_head hv).2.1.1
    have hm6 := (Rnd.valid_head hv).2.1.2
    clear HLAW HZERO hv hwb
    obtain ⟨⟨k0, k1, k2, k3⟩, k4, k5, l3, l4, l5⟩ := HA.out.cells
    clear s0 s1 s2
    go_wp2_with fail
    refine (round_any r oa ca _ hn HA.out.tr).mono ?_
    rintro e W4 ⟨rfl, hb⟩
    rw [HV.out]
    have HB := Lib.hid (HA.out.on hb)
    have HS4 := Lib.hid (HS.out.below hb)
    clear HA HS k0 k1 k2 k3 k4 k5 l3 l4 l5 hb
    have HA := HB
    clear HB
    obtain ⟨⟨k0, k1, k2, k3⟩, k4, k5, l3, l4, l5⟩ := HA.out.cells
    have s0 := HS4.out.cell 0 (v := .int .i64 sl) rfl
    have s1 := HS4.out.cell 1 (v := .int .i64 sh) rfl
    have s2 := HS4.out.lt
    have y1 : decide (sl > sh) = false := by simp; omega
    have y2 : decide (sh < sl) = false := by simp; omega
    have y3 : decide (sl ≤ sh) = true := by simp; omega
    by_cases hbo : bench = off
    · have y4 : (bench == off) = true := by simp [hbo]
      have HBO := Lib.hid hbo
      clear hbo hbd
      by_cases hlo : sl < -99999
      · have y5 : decide (sl < -99999) = true := by simp; omega
        go_wp2_with fail
        refine (HAW.out _ HA.out.low).mono ?_
        rintro e wa ⟨rfl, hb⟩
        have HLA := Lib.hid (HA.out.low.trans (hb.mono HA.out.low.size))
        clear hb
        go_wp2_with fail
        go_ret
        exact ⟨rfl, HLA.out⟩
      have y5 : decide (sl < -99999) = false := by simp; omega
      by_cases hhi : 99999 < sh
      · have y6 : decide (99999 < sh) = true := by simp; omega
        go_wp2_with fail
        refine (HAW.out _ HA.out.low).mono ?_
        rintro e wa ⟨rfl, hb⟩
        have HLA := Lib.hid (HA.out.low.trans (hb.mono HA.out.low.size))
        clear hb
        go_wp2_with fail
        go_ret
        exact ⟨rfl, HLA.out⟩
      have y6 : decide (99999 < sh) = false := by simp; omega
      have hB0 : -100000 ≤ sl := by omega
      have hB1 : sh ≤ 100000 := by omega
      go_wp2_with fail
      refine (with_any r oa ca off bench _ g3 g5 g4 _ HA.out.b3 HA.out.b5 HA.out.b4 HA.out.tr HA.out.tt HA.out.t1 h1 hm1 hm6 HNIL.out).mono ?_
      rintro e W9 ⟨rfl, hb⟩
      have HQ1 := Lib.hid (show r.withB off bench sl = true by rw [HWB.out]; simp; omega)
      rw [HQ1.out]
      have HB := Lib.hid (HA.out.on hb)
      have HS9 := Lib.hid (HS4.out.below hb)
      clear HA HS4 k0 k1 k2 k3 k4 k5 l3 l4 l5 hb s0 s1 s2
      have HA := HB
      have HS4 := HS9
      clear HB HS9
      obtain ⟨⟨k0, k1, k2, k3⟩, k4, k5, l3, l4, l5⟩ := HA.out.cells
      have s0 := HS4.out.cell 0 (v := .int .i64 sl) rfl
      have s1 := HS4.out.cell 1 (v := .int .i64 sh) rfl
      have s2 := HS4.out.lt
      go_wp2_with fail
      refine (with_any r oa ca off bench _ g3 g5 g4 _ HA.out.b3 HA.out.b5 HA.out.b4 HA.out.tr HA.out.tt HA.out.t1 h1 hm1 hm6 HNIL.out).mono ?_
      rintro e W9 ⟨rfl, hb⟩
      have HQ2 := Lib.hid (show r.withB off bench sh = true by rw [HWB.out]; simp; omega)
      rw [HQ2.out]
      have HB := Lib.hid (HA.out.on hb)
      have HS9 := Lib.hid (HS4.out.below hb)
      clear HA HS4 k0 k1 k2 k3 k4 k5 l3 l4 l5 hb s0 s1 s2
      have HA := HB
      have HS4 := HS9
      clear HB HS9
      obtain ⟨⟨k0, k1, k2, k3⟩, k4, k5, l3, l4, l5⟩ := HA.out.cells
      have s0 := HS4.out.cell 0 (v := .int .i64 sl) rfl
      have s1 := HS4.out.cell 1 (v := .int .i64 sh) rfl
      have s2 := HS4.out.lt
      go_wp2_with fail
      refine (with_any r oa ca off bench _ g3 g5 g4 _ HA.out.b3 HA.out.b5 HA.out.b4 HA.out.tr HA.out.tt HA.out.t1 h1 hm1 hm6 HNIL.out).mono ?_
      rintro e W9 ⟨rfl, hb⟩
      have HQ3 := Lib.hid (show r.withB off bench (sl + (sh - sl) / 2) = true by rw [HWB.out]; simp; omega)
      rw [HQ3.out]
      have HB := Lib.hid (HA.out.on hb)
      have HS9 := Lib.hid (HS4.out.below hb)
      clear HA HS4 k0 k1 k2 k3 k4 k5 l3 l4 l5 hb s0 s1 s2
      have HA := HB
      have HS4 := HS9
      clear HB HS9
      obtain ⟨⟨k0, k1, k2, k3⟩, k4, k5, l3, l4, l5⟩ := HA.out.cells
      have s0 := HS4.out.cell 0 (v := .int .i64 sl) rfl
      have s1 := HS4.out.cell 1 (v := .int .i64 sh) rfl
      have s2 := HS4.out.lt
      go_wp2_with fail
      refine (with_any r oa ca off bench _ g3 g5 g4 _ HA.out.b3 HA.out.b5 HA.out.b4 HA.out.tr HA.out.tt HA.out.t1 h1 hm1 hm6 HNIL.out).mono ?_
      rintro e W9 ⟨rfl, hb⟩
      have HQ4 := Lib.hid (show r.withB off bench (sl - 1) = false by rw [HWB.out]; simp; omega)
      rw [HQ4.out]
      have HB := Lib.hid (HA.out.on hb)
      have HS9 := Lib.hid (HS4.out.below hb)
      clear HA HS4 k0 k1 k2 k3 k4 k5 l3 l4 l5 hb s0 s1 s2
      have HA := HB
      have HS4 := HS9
      clear HB HS9
      obtain ⟨⟨k0, k1, k2, k3⟩, k4, k5, l3, l4, l5⟩ := HA.out.cells
      have s0 := HS4.out.cell 0 (v := .int .i64 sl) rfl
      have s1 := HS4.out.cell 1 (v := .int .i64 sh) rfl
      have s2 := HS4.out.lt
      go_wp2_with fail
      refine (with_any r oa ca off bench _ g3 g5 g4 _ HA.out.b3 HA.out.b5 HA.out.b4 HA.out.tr HA.out.tt HA.out.t1 h1 hm1 hm6 HNIL.out).mono ?_
      rintro e W9 ⟨rfl, hb⟩
      have HQ5 := Lib.hid (show r.withB off bench (sh + 1) = false by rw [HWB.out]; simp; omega)
      rw [HQ5.out]
      have HB := Lib.hid (HA.out.on hb)
      have HS9 := Lib.hid (HS4.out.below hb)
      clear HA HS4 k0 k1 k2 k3 k4 k5 l3 l4 l5 hb s0 s1 s2
      have HA := HB
      have HS4 := HS9
      clear HB HS9
      obtain ⟨⟨k0, k1, k2, k3⟩, k4, k5, l3, l4, l5⟩ := HA.out.cells
      have s0 := HS4.out.cell 0 (v := .int .i64 sl) rfl
      have s1 := HS4.out.cell 1 (v := .int .i64 sh) rfl
      have s2 := HS4.out.lt
      go_wp2_with fail
      refine (HAW.out _ HA.out.low).mono ?_
      rintro e wa ⟨rfl, hb⟩
      have HLA := Lib.hid (HA.out.low.trans (hb.mono HA.out.low.size))
      clear hb
      go_wp2_with fail
      go_ret
      exact ⟨rfl, HLA.out⟩
    · have y4 : (bench == off) = false := by simpa using hbo
      obtain ⟨hB0, hB1⟩ := hbd hbo
      clear hbo hbd
      go_wp2_with fail
      refine (with_any r oa ca off bench _ g3 g5 g4 _ HA.out.b3 HA.out.b5 HA.out.b4 HA.out.tr HA.out.tt HA.out.t1 h1 hm1 hm6 HNIL.out).mono ?_
      rintro e W9 ⟨rfl, hb⟩
      have HQ1 := Lib.hid (show r.withB off bench sl = true by rw [HWB.out]; simp; omega)
      rw [HQ1.out]
      have HB := Lib.hid (HA.out.on hb)
      have HS9 := Lib.hid (HS4.out.below hb)
      clear HA HS4 k0 k1 k2 k3 k4 k5 l3 l4 l5 hb s0 s1 s2
      have HA := HB
      have HS4 := HS9
      clear HB HS9
      obtain ⟨⟨k0, k1, k2, k3⟩, k4, k5, l3, l4, l5⟩ := HA.out.cells
      have s0 := HS4.out.cell 0 (v := .int .i64 sl) rfl
      have s1 := HS4.out.cell 1 (v := .int .i64 sh) rfl
      have s2 := HS4.out.lt
      go_wp2_with fail
      refine (with_any r oa ca off bench _ g3 g5 g4 _ HA.out.b3 HA.out.b5 HA.out.b4 HA.out.tr HA.out.tt HA.out.t1 h1 hm1 hm6 HNIL.out).mono ?_
      rintro e W9 ⟨rfl, hb⟩
      have HQ2 := Lib.hid (show r.withB off bench sh = true by rw [HWB.out]; simp; omega)
      rw [HQ2.out]
      have HB := Lib.hid (HA.out.on hb)
      have HS9 := Lib.hid (HS4.out.below hb)
      clear HA HS4 k0 k1 k2 k3 k4 k5 l3 l4 l5 hb s0 s1 s2
      have HA := HB
      have HS4 := HS9
      clear HB HS9
      obtain ⟨⟨k0, k1, k2, k3⟩, k4, k5, l3, l4, l5⟩ := HA.out.cells
      have s0 := HS4.out.cell 0 (v := .int .i64 sl) rfl
      have s1 := HS4.out.cell 1 (v := .int .i64 sh) rfl
      have s2 := HS4.out.lt
      go_wp2_with fail
      refine (with_any r oa ca off bench _ g3 g5 g4 _ HA.out.b3 HA.out.b5 HA.out.b4 HA.out.tr HA.out.tt HA.out.t1 h1 hm1 hm6 HNIL.out).mono ?_
      rintro e W9 ⟨rfl, hb⟩
      have HQ3 := Lib.hid (show r.withB off bench (sl + (sh - sl) / 2) = true by rw [HWB.out]; simp; omega)
      rw [HQ3.out]
      have HB := Lib.hid (HA.out.on hb)
      have HS9 := Lib.hid (HS4.out.below hb)
      clear HA HS4 k0 k1 k2 k3 k4 k5 l3 l4 l5 hb s0 s1 s2
      have HA := HB
      have HS4 := HS9
      clear HB HS9
      obtain ⟨⟨k0, k1, k2, k3⟩, k4, k5, l3, l4, l5⟩ := HA.out.cells
      have s0 := HS4.out.cell 0 (v := .int .i64 sl) rfl
      have s1 := HS4.out.cell 1 (v := .int .i64 sh) rfl
      have s2 := HS4.out.lt
      go_wp2_with fail
      refine (with_any r oa ca off bench _ g3 g5 g4 _ HA.out.b3 HA.out.b5 HA.out.b4 HA.out.tr HA.out.tt HA.out.t1 h1 hm1 hm6 HNIL.out).mono ?_
      rintro e W9 ⟨rfl, hb⟩
      have HQ4 := Lib.hid (show r.withB off bench (sl - 1) = false by rw [HWB.out]; simp; omega)
      rw [HQ4.out]
      have HB := Lib.hid (HA.out.on hb)
      have HS9 := Lib.hid (HS4.out.below hb)
      clear HA HS4 k0 k1 k2 k3 k4 k5 l3 l4 l5 hb s0 s1 s2
      have HA := HB
      have HS4 := HS9
      clear HB HS9
      obtain ⟨⟨k0, k1, k2, k3⟩, k4, k5, l3, l4, l5⟩ := HA.out.cells
      have s0 := HS4.out.cell 0 (v := .int .i64 sl) rfl
      have s1 := HS4.out.cell 1 (v := .int .i64 sh) rfl
      have s2 := HS4.out.lt
      go_wp2_with fail
      refine (with_any r oa ca off bench _ g3 g5 g4 _ HA.out.b3 HA.out.b5 HA.out.b4 HA.out.tr HA.out.tt HA.out.t1 h1 hm1 hm6 HNIL.out).mono ?_
      rintro e W9 ⟨rfl, hb⟩
      have HQ5 := Lib.hid (show r.withB off bench (sh + 1) = false by rw [HWB.out]; simp; omega)
      rw [HQ5.out]
      have HB := Lib.hid (HA.out.on hb)
      have HS9 := Lib.hid (HS4.out.below hb)
      clear HA HS4 k0 k1 k2 k3 k4 k5 l3 l4 l5 hb s0 s1 s2
      have HA := HB
      have HS4 := HS9
      clear HB HS9
      obtain ⟨⟨k0, k1, k2, k3⟩, k4, k5, l3, l4, l5⟩ := HA.out.cells
      have s0 := HS4.out.cell 0 (v := .int .i64 sl) rfl
      have s1 := HS4.out.cell 1 (v := .int .i64 sh) rfl
      have s2 := HS4.out.lt
      go_wp2_with fail
      refine (HAW.out _ HA.out.low).mono ?_
      rintro e wa ⟨rfl, hb⟩
      have HLA := Lib.hid (HA.out.low.trans (hb.mono HA.out.low.size))
      clear hb
      go_wp2_with fail
      go_ret
      exact ⟨rfl, HLA.out⟩
  · obtain ⟨e1, e2⟩ := HZERO.out he
    subst e1 e2
    have y1 : (se != 0) = true := by simpa using he
    have y2 : (se == 0) = false := by simpa using he
    clear HLAW HZERO he
    go_wp2_with fail
    refine (HAW.out _ HA.out.low).mono ?_
    rintro e wa ⟨rfl, hb⟩
    have HLA := Lib.hid (HA.out.low.trans (hb.mono HA.out.low.size))
    clear hb
    go_wp2_with fail
    go_ret
    exact ⟨rfl, HLA.out⟩
end Go.Proofs.YtldodmfmibeoiaaDoor
