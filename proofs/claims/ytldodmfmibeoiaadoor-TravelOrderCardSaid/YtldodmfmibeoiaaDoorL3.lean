/- TravelFits returns true. -/
import Derived.Test.YtldodmfmibeoiaaDoorR4
namespace Go.Proofs.YtldodmfmibeoiaaDoor
open Go.RowKit
/-- what a law keeps that has its round in a box, and changes nothing old -/
structure Vr (r : Rnd) (w : World) (oa : Option Addr) (ca g : Nat) (W : World) : Prop where
  low : Below w.heap.size w W
  b : Box g #[.int .i64 r.nb, .int .i64 r.nm, .int .i64 r.most, .slice oa r.n ca] 24 W
  tr : TrpsAt W oa r.n r.t
  tt : TabAt 1 Lib.deBruijn64tab W
  t1 : 1 < W.heap.size
theorem Vr.on {r : Rnd} {w A B : World} {oa : Option Addr} {ca g : Nat} (h : Vr r w oa ca g A) (hb : Below A.heap.size A B) : Vr r w oa ca g B :=
  ⟨h.low.trans (hb.mono h.low.size), h.b.below hb, h.tr.mono hb, tab_below h.tt h.t1 hb, Nat.lt_of_lt_of_le h.t1 hb.size⟩
theorem Vr.cells {r : Rnd} {w A : World} {oa : Option Addr} {ca g : Nat} (h : Vr r w oa ca g A) : A.cell? ⟨g, 0, none⟩ = some (.int .i64 r.nb) ∧ A.cell? ⟨g, 1, none⟩ = some (.int .i64 r.nm) ∧ A.cell? ⟨g, 2, none⟩ = some (.int .i64 r.most) ∧ A.cell? ⟨g, 3, none⟩ = some (.slice oa r.n ca) ∧ g < A.heap.size :=
  ⟨h.b.cell 0 rfl, h.b.cell 1 rfl, h.b.cell 2 rfl, h.b.cell 3 rfl, h.b.lt⟩
theorem Vr.start {r : Rnd} {w : World} {oa : Option Addr} {ca : Nat} (hR : TrpsAt w oa r.n r.t) (hT : TabAt 1 Lib.deBruijn64tab w) (h1 : 1 < w.heap.size) : Vr r w oa ca w.heap.size (w.alloc (.cells #[.int .i64 r.nb, .int .i64 r.nm, .int .i64 r.most, .slice oa r.n ca] 24)) := by
  have hb := below_alloc1 w (.cells #[.int .i64 r.nb, .int .i64 r.nm, .int .i64 r.most, .slice oa r.n ca] 24)
  exact ⟨hb, Box.new _ _ w rfl, hR.mono hb, tab_below hT h1 hb, Nat.lt_of_lt_of_le h1 hb.size⟩
set_option maxRecDepth 100000 in
set_option maxHeartbeats 40000000 in
theorem travelFits_any (r : Rnd) (oa : Option Addr) (ca : Nat) (off : Int) (w : World) (hR : TrpsAt w oa r.n r.t) (hT : TabAt 1 Lib.deBruijn64tab w) (h1 : 1 < w.heap.size) (hn63 : r.n ≤ 9223372036854775807) :
    Calls Tryd.prog 3 #[r.val oa ca, .int .i64 off] w fun e w' => e = .returned (.bool true) ∧ Below w.heap.size w w' := by
  have I0 := Lib.hid (Vr.start (ca := ca) hR hT h1)
  clear hR hT
  go_enter Tryd.func3, Tryd.ntmps3
  go_upto_region 1 with fail
  obtain ⟨g, hG⟩ : ∃ G, G = w.heap.size := ⟨_, rfl⟩
  obtain ⟨X2, hW⟩ : ∃ X, X = w.alloc (.cells #[.int .i64 r.nb, .int .i64 r.nm, .int .i64 r.most, .slice oa r.n ca] 24) := ⟨_, rfl⟩
  rw [← hW] at I0 ⊢
  rw [← hG] at I0 ⊢
  replace I0 := Lib.hid (show Vr r w oa ca g X2 by rw [hG]; rw [hG] at I0; exact I0.out)
  clear hG hW
  obtain ⟨c0, c1, c2, c3, c4⟩ := I0.out.cells
  by_cases h18 : 18 < r.n
  · have z : decide (18 < (r.n : Int)) = true := by simp; omega
    have z2 : decide ((r.n : Int) > 18) = true := by simp; omega
    go_wp2_with fail
    refine (awake_any _ I0.out.tt I0.out.t1).mono ?_
    rintro e X3 ⟨rfl, hb⟩
    have HF := Lib.hid (I0.out.on hb).low
    go_wp2_with fail
    go_ret
    exact ⟨rfl, HF.out⟩
  have z : decide (18 < (r.n : Int)) = false := by simp; omega
  have z2 : decide ((r.n : Int) > 18) = false := by simp; omega
  have hn : r.n ≤ 1000000 := by omega
  go_wp2_with fail
  refine (fits_any r oa ca off _ hn I0.out.tt I0.out.t1 I0.out.tr).mono ?_
  rintro e X3 ⟨rfl, hb⟩
  have I1 := Lib.hid (I0.out.on hb)
  have HD := Lib.hid (fun (W : World) (h : TrpsAt W oa r.n r.t) => dfits_any r oa ca off W hn h)
  obtain ⟨q, hq⟩ : ∃ q, q = r.fitsB off := ⟨_, rfl⟩
  obtain ⟨er, her⟩ : ∃ q, q = r.err off := ⟨_, rfl⟩
  rw [← hq, ← her] at HD ⊢
  clear I0 c0 c1 c2 c3 c4 hb hq her z z2 h18
  obtain ⟨c0, c1, c2, c3, c4⟩ := I1.out.cells
  go_wp2_with fail
  refine (HD.out _ I1.out.tr).mono ?_
  rintro e X4 ⟨rfl, hb⟩
  have I2 := Lib.hid (I1.out.on hb)
  clear I1 c0 c1 c2 c3 c4 hb HD
  obtain ⟨c0, c1, c2, c3, c4⟩ := I2.out.cells
  go_wp2_with fail
  refine (convict_any r oa ca _ hn I2.out.tt I2.out.t1 I2.out.tr).mono ?_
  rintro e X5 ⟨rfl, hb⟩
  have I3 := Lib.hid (I2.out.on hb)
  have HD := Lib.hid (fun (W : World) (h : TrpsAt W oa r.n r.t) => dconvict_any r oa ca W hn h)
  obtain ⟨v1, hv1⟩ : ∃ q, q = r.convict.1 := ⟨_, rfl⟩
  obtain ⟨v2, hv2⟩ : ∃ q, q = r.convict.2 := ⟨_, rfl⟩
  rw [← hv1, ← hv2] at HD ⊢
  clear I2 c0 c1 c2 c3 c4 hb hv1 hv2
  obtain ⟨c0, c1, c2, c3, c4⟩ := I3.out.cells
  go_wp2_with fail
  refine (HD.out _ I3.out.tr).mono ?_
  rintro e X6 ⟨rfl, hb⟩
  have I4 := Lib.hid (I3.out.on hb)
  clear I3 c0 c1 c2 c3 c4 hb HD
  have z1 : (q == q) = true := by simp
  have z2 : (er == er) = true := by simp
  have z3 : (v1 == v1) = true := by simp
  have z4 : (v2 == v2) = true := by simp
  go_wp2_with fail
  refine (awake_any _ I4.out.tt I4.out.t1).mono ?_
  rintro e X7 ⟨rfl, hb⟩
  have HF := Lib.hid (I4.out.on hb).low
  go_wp2_with fail
  go_ret
  exact ⟨rfl, HF.out⟩
end Go.Proofs.YtldodmfmibeoiaaDoor
