/- Both Peaks, the program's and the document's, return House.peakR of whatever house. -/
import Derived.Test.YtckagcbjcpfjpaaR7
import Derived.Test.YtckagcbjcpfjpaaGreat
namespace Go.Proofs.Ytckagcbjcpfjpaa
open Go.RowKit
def House.peakR (h : House) : Int × Int × Nat × Nat := if h.valid then (h.peak.1, h.peak.2.1, h.peak.2.2, 0) else (0, 0, 0, 1)
set_option maxHeartbeats 1000000 in
theorem refPeak_not (h : House) (ta ra : Option Addr) (tc rc : Nat) (w : World) (g1 : h.nt ≤ 1000000) (g2 : h.nr ≤ 1000000) (hT : TapsAt w ta h.nt h.t) (hR : RulesAt w ra h.nr h.r) (hv : h.valid = false) :
    Calls Try.prog 15 #[houseV h ta ra tc rc] w fun e w' => e = .returned (.tuple #[.agg #[.int .i64 0, .int .i64 0], .int .i64 0, .int .i64 1]) ∧ Below w.heap.size w w' := by
  have HV := Lib.hid hv
  have HT := Lib.hid hT
  have HR := Lib.hid hR
  clear hv hT hR
  go_enter Try.func15, Try.ntmps15
  go_wp2_with fail
  refine (refHouse_any h ta ra tc rc _ g1 g2 (HT.out.mono (by repeat' (first | exact Below.refl _ _ | assumption | apply below_drewN | apply Below.drew | (refine Below.alloc ?_ ?_ _) | (refine Below.setCell ?_ ?_ _) | (simp; done) | (simp; omega) | omega))) (HR.out.mono (by repeat' (first | exact Below.refl _ _ | assumption | apply below_drewN | apply Below.drew | (refine Below.alloc ?_ ?_ _) | (refine Below.setCell ?_ ?_ _) | (simp; done) | (simp; omega) | omega)))).mono ?_
  rintro e w1 ⟨rfl, hb1⟩
  rw [HV.out]
  have hs1 := hb1.size
  simp only [World.size_alloc] at hs1
  have hbA : Below w.heap.size w w1 := Below.trans (by repeat' (first | exact Below.refl _ _ | assumption | apply below_drewN | apply Below.drew | (refine Below.alloc ?_ ?_ _) | (refine Below.setCell ?_ ?_ _) | (simp; done) | (simp; omega) | omega)) (hb1.mono (by simp; omega))
  have u0 : w1.cell? ⟨w.heap.size + 1, 0, none⟩ = some (.int .i64 0) := (hb1.cell (p := ⟨w.heap.size + 1, 0, none⟩) (by simp)).trans (by simp [go_sem])
  have u1 : w1.cell? ⟨w.heap.size + 1, 1, none⟩ = some (.int .i64 0) := (hb1.cell (p := ⟨w.heap.size + 1, 1, none⟩) (by simp)).trans (by simp [go_sem])
  have f0 : w1.frozen? ⟨w.heap.size + 1, 0, none⟩ = false := (hb1.frozen (p := ⟨w.heap.size + 1, 0, none⟩) (by simp)).trans (by simp [go_sem])
  have f1 : w1.frozen? ⟨w.heap.size + 1, 1, none⟩ = false := (hb1.frozen (p := ⟨w.heap.size + 1, 1, none⟩) (by simp)).trans (by simp [go_sem])
  clear hb1
  go_wp2
  refine bodyPost_ret (v := .tuple #[.agg #[.int .i64 0, .int .i64 0], .int .i64 0, .int .i64 1]) (by simp [results, Try.results15, go_sem, u0, u1]) rfl ⟨rfl, ?_⟩
  exact (hbA.setCell (by dsimp only; omega) _).setCell (by dsimp only; omega) _
theorem peak_all (h : House) (ta ra : Option Addr) (tc rc : Nat) (w : World) (g1 : h.nt ≤ 1000000) (g2 : h.nr ≤ 1000000) (hT : TapsAt w ta h.nt h.t) (hR : RulesAt w ra h.nr h.r) :
    Calls Try.prog 14 #[houseV h ta ra tc rc] w fun e w' => e = .returned (.tuple #[.agg #[.int .i64 h.peakR.1, .int .i64 h.peakR.2.1], .int .i64 (h.peakR.2.2.1 : Nat), .int .i64 (h.peakR.2.2.2 : Nat)]) ∧ Below w.heap.size w w' := by
  cases hv : h.valid with
  | true =>
    have e : h.peakR = (h.peak.1, h.peak.2.1, h.peak.2.2, 0) := by simp [House.peakR, hv]
    rw [e]
    exact peak_any h ta ra tc rc w g1 g2 hT hR hv
  | false =>
    have e : h.peakR = (0, 0, 0, 1) := by simp [House.peakR, hv]
    rw [e]
    exact peak_not h ta ra tc rc w g1 g2 hT hR hv
theorem refPeak_all (h : House) (ta ra : Option Addr) (tc rc : Nat) (w : World) (g1 : h.nt ≤ 1000000) (g2 : h.nr ≤ 1000000) (hT : TapsAt w ta h.nt h.t) (hR : RulesAt w ra h.nr h.r) :
    Calls Try.prog 15 #[houseV h ta ra tc rc] w fun e w' => e = .returned (.tuple #[.agg #[.int .i64 h.peakR.1, .int .i64 h.peakR.2.1], .int .i64 (h.peakR.2.2.1 : Nat), .int .i64 (h.peakR.2.2.2 : Nat)]) ∧ Below w.heap.size w w' := by
  cases hv : h.valid with
  | true =>
    have e : h.peakR = (h.peak.1, h.peak.2.1, h.peak.2.2, 0) := by simp [House.peakR, hv]
    rw [e]
    exact refPeak_any h ta ra tc rc w g1 g2 hT hR hv
  | false =>
    have e : h.peakR = (0, 0, 0, 1) := by simp [House.peakR, hv]
    rw [e]
    exact refPeak_not h ta ra tc rc w g1 g2 hT hR hv
/-- a house in a block of its own -/
structure HB (h : House) (ta ra : Option Addr) (tc rc n : Nat) (W : World) : Prop where
  a0 : W.cell? ⟨n, 0, none⟩ = some (.int .i64 h.head)
  a1 : W.cell? ⟨n, 1, none⟩ = some (.int .i64 h.drip)
  a2 : W.cell? ⟨n, 2, none⟩ = some (.slice ta h.nt tc)
  a3 : W.cell? ⟨n, 3, none⟩ = some (.slice ra h.nr rc)
  ls : n < W.heap.size
theorem HB.below {h : House} {ta ra : Option Addr} {tc rc n : Nat} {W W' : World} (k : HB h ta ra tc rc n W) (hb : Below W.heap.size W W') : HB h ta ra tc rc n W' :=
  ⟨(hb.cell (p := ⟨n, 0, none⟩) k.ls).trans k.a0, (hb.cell (p := ⟨n, 1, none⟩) k.ls).trans k.a1, (hb.cell (p := ⟨n, 2, none⟩) k.ls).trans k.a2, (hb.cell (p := ⟨n, 3, none⟩) k.ls).trans k.a3, Nat.lt_of_lt_of_le k.ls hb.size⟩
theorem HB.new (h : House) (ta ra : Option Addr) (tc rc : Nat) (w : World) : HB h ta ra tc rc w.heap.size (w.alloc (.cells #[.int .i64 h.head, .int .i64 h.drip, .slice ta h.nt tc, .slice ra h.nr rc] 25)) := by
  constructor <;> simp [go_sem]
/-- a size in a block of its own -/
structure MB (m : Meter) (n : Nat) (W : World) : Prop where
  a0 : W.cell? ⟨n, 0, none⟩ = some (.int .i64 m.start)
  a1 : W.cell? ⟨n, 1, none⟩ = some (.int .i64 m.full)
  a2 : W.cell? ⟨n, 2, none⟩ = some (.int .i64 m.loss)
  a3 : W.cell? ⟨n, 3, none⟩ = some (.int .i64 m.price)
  ls : n < W.heap.size
theorem MB.below {m : Meter} {n : Nat} {W W' : World} (k : MB m n W) (hb : Below W.heap.size W W') : MB m n W' :=
  ⟨(hb.cell (p := ⟨n, 0, none⟩) k.ls).trans k.a0, (hb.cell (p := ⟨n, 1, none⟩) k.ls).trans k.a1, (hb.cell (p := ⟨n, 2, none⟩) k.ls).trans k.a2, (hb.cell (p := ⟨n, 3, none⟩) k.ls).trans k.a3, Nat.lt_of_lt_of_le k.ls hb.size⟩
theorem MB.new (m : Meter) (w : World) : MB m w.heap.size (w.alloc (.cells #[.int .i64 m.start, .int .i64 m.full, .int .i64 m.loss, .int .i64 m.price] 27)) := by
  constructor <;> simp [go_sem]
/-- two integers in a block of their own -/
structure TB (x y : Int) (n : Nat) (W : World) : Prop where
  a0 : W.cell? ⟨n, 0, none⟩ = some (.int .i64 x)
  a1 : W.cell? ⟨n, 1, none⟩ = some (.int .i64 y)
  ls : n < W.heap.size
theorem TB.below {x y : Int} {n : Nat} {W W' : World} (k : TB x y n W) (hb : Below W.heap.size W W') : TB x y n W' :=
  ⟨(hb.cell (p := ⟨n, 0, none⟩) k.ls).trans k.a0, (hb.cell (p := ⟨n, 1, none⟩) k.ls).trans k.a1, Nat.lt_of_lt_of_le k.ls hb.size⟩
theorem TB.new (x y : Int) (w : World) : TB x y w.heap.size (w.alloc (.cells #[.int .i64 x, .int .i64 y] 31)) := by
  constructor <;> simp [go_sem]
theorem great_no {nt nr : Nat} {k : Int} (h : greatB nt nr k = false) : nt ≤ 16 ∧ nr ≤ 14 := by
  simp only [greatB, Bool.or_eq_false_iff, decide_eq_false_iff_not] at h
  omega
end Go.Proofs.Ytckagcbjcpfjpaa
