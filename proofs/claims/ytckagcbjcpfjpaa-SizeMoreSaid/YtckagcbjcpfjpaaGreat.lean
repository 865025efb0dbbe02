/- What great comes to; Peak where the house is not valid. -/
import Derived.Test.YtckagcbjcpfjpaaEnd
import Derived.Test.YtckagcbjcpfjpaaKit
namespace Go.Proofs.Ytckagcbjcpfjpaa
open Go.RowKit
def greatB (nt nr : Nat) (taps : Int) : Bool := (decide ((nt : Int) > taps) && decide ((nt : Int) ≤ 10)) || decide ((nt : Int) > 16) || decide ((nr : Int) > 14)
theorem great_any (h : House) (k : Int) (ta ra : Option Addr) (tc rc : Nat) (w : World) :
    Calls Try.prog 12 #[houseV h ta ra tc rc, .int .i64 k] w fun e w' => e = .returned (.bool (greatB h.nt h.nr k)) ∧ Below w.heap.size w w' := by
  unfold greatB
  rcases c1 : decide ((h.nt : Int) > k) <;> rcases c2 : decide ((h.nt : Int) ≤ 10) <;> rcases c3 : decide ((h.nt : Int) > 16) <;> rcases c4 : decide ((h.nr : Int) > 14)
  all_goals
    go_enter Try.func12, Try.ntmps12
    go_wp2
    go_ret
    exact ⟨rfl, (by repeat' (first | exact Below.refl _ _ | assumption | apply below_drewN | apply Below.drew | (refine Below.alloc ?_ ?_ _) | (refine Below.setCell ?_ ?_ _) | (simp; done) | (simp; omega) | omega))⟩
set_option maxHeartbeats 1000000 in
theorem peak_not (h : House) (ta ra : Option Addr) (tc rc : Nat) (w : World) (g1 : h.nt ≤ 1000000) (g2 : h.nr ≤ 1000000) (hT : TapsAt w ta h.nt h.t) (hR : RulesAt w ra h.nr h.r) (hv : h.valid = false) :
    Calls Try.prog 14 #[houseV h ta ra tc rc] w fun e w' => e = .returned (.tuple #[.agg #[.int .i64 0, .int .i64 0], .int .i64 0, .int .i64 1]) ∧ Below w.heap.size w w' := by
  have HV := Lib.hid hv
  have HT := Lib.hid hT
  have HR := Lib.hid hR
  clear hv hT hR
  go_enter Try.func14, Try.ntmps14
  go_wp2_with fail
  refine (isHouse_any h ta ra tc rc _ g1 g2 (HT.out.mono (by repeat' (first | exact Below.refl _ _ | assumption | apply below_drewN | apply Below.drew | (refine Below.alloc ?_ ?_ _) | (refine Below.setCell ?_ ?_ _) | (simp; done) | (simp; omega) | omega))) (HR.out.mono (by repeat' (first | exact Below.refl _ _ | assumption | apply below_drewN | apply Below.drew | (refine Below.alloc ?_ ?_ _) | (refine Below.setCell ?_ ?_ _) | (simp; done) | (simp; omega) | omega)))).mono ?_
  rintro e w1 ⟨rfl, hb1⟩
  rw [HV.out]
  have hs1 := hb1.size
  simp only [World.size_alloc] at hs1
  have hbA : Below w.heap.size w w1 := Below.trans (by repeat' (first | exact Below.refl _ _ | assumption | apply below_drewN | apply Below.drew | (refine Below.alloc ?_ ?_ _) | (refine Below.setCell ?_ ?_ _) | (simp; done) | (simp; omega) | omega)) (hb1.mono (by simp; omega))
  have u0 : w1.cell? ⟨w.heap.size + 1, 0, none⟩ = some (.int .i64 0) := (hb1.cell (p := ⟨w.heap.size + 1, 0, none⟩) (by simp)).trans (by simp [go_sem])
  have u1 : w1.cell? ⟨w.heap.size + 1, 1, none⟩ = some (.int .i64 0) := (hb1.cell (p := ⟨w.heap.size + 1, 1, none⟩) (by simp)).trans (by simp [go_sem])
  have u2 : w1.cell? ⟨w.heap.size + 1 + 1, 0, none⟩ = some (.int .i64 0) := (hb1.cell (p := ⟨w.heap.size + 1 + 1, 0, none⟩) (by simp)).trans (by simp [go_sem])
  have f0 : w1.frozen? ⟨w.heap.size + 1, 0, none⟩ = false := (hb1.frozen (p := ⟨w.heap.size + 1, 0, none⟩) (by simp)).trans (by simp [go_sem])
  have f1 : w1.frozen? ⟨w.heap.size + 1, 1, none⟩ = false := (hb1.frozen (p := ⟨w.heap.size + 1, 1, none⟩) (by simp)).trans (by simp [go_sem])
  have f2 : w1.frozen? ⟨w.heap.size + 1 + 1, 0, none⟩ = false := (hb1.frozen (p := ⟨w.heap.size + 1 + 1, 0, none⟩) (by simp)).trans (by simp [go_sem])
  clear hb1
  go_wp2
  refine bodyPost_ret (v := .tuple #[.agg #[.int .i64 0, .int .i64 0], .int .i64 0, .int .i64 1]) (by simp [results, Try.results14, go_sem, u0, u1, u2]) rfl ⟨rfl, ?_⟩
  exact (by repeat' (first | exact Below.refl _ _ | assumption | apply below_drewN | apply Below.drew | (refine Below.alloc ?_ ?_ _) | (refine Below.setCell ?_ ?_ _) | (simp; done) | (simp; omega) | omega))
end Go.Proofs.Ytckagcbjcpfjpaa
