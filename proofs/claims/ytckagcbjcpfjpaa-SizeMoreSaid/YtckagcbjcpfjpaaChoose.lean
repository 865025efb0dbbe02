/- errorOf returns the error of a house and sizes. -/
import Derived.Test.YtckagcbjcpfjpaaSizes
import Derived.Test.YtckagcbjcpfjpaaPeak
namespace Go.Proofs.Ytckagcbjcpfjpaa
open Go.RowKit
/-- the error of a house and sizes -/
def errB (h : House) (n : Nat) (t : Nat → Meter) : Nat := if h.valid then (if listB n t then 0 else 2) else 1
set_option maxHeartbeats 400000 in
theorem errorOf_any (h : House) (ta ra oa : Option Addr) (tc rc n cap : Nat) (t : Nat → Meter) (w : World) (g1 : h.nt ≤ 1000000) (g2 : h.nr ≤ 1000000) (g3 : n ≤ 1000000) (hT : TapsAt w ta h.nt h.t) (hR : RulesAt w ra h.nr h.r) (hM : MetersAt w oa n t) :
    Calls Try.prog 41 #[houseV h ta ra tc rc, .slice oa n cap] w fun e w' => e = .returned (.int .i64 (errB h n t : Nat)) ∧ Below w.heap.size w w' := by
  have HT := Lib.hid (fun o => hT.mono (below_alloc1 w o))
  have HR := Lib.hid (fun o => hR.mono (below_alloc1 w o))
  have HM := Lib.hid (fun o => hM.mono (below_alloc1 w o))
  clear hT hR hM
  go_enter Try.func41, Try.ntmps41
  go_wp2_with fail
  refine (isHouse_any h ta ra tc rc _ g1 g2 (HT.out _) (HR.out _)).mono ?_
  rintro e w1 ⟨rfl, hb1⟩
  have hs1 := hb1.size
  simp only [World.size_alloc] at hs1
  by_cases hv : h.valid = true
  · have HV := Lib.hid hv
    go_wp2_with fail
    refine (isList_any oa n cap t _ g3 ((HM.out _).mono hb1)).mono ?_
    rintro e w2 ⟨rfl, hb2⟩
    have hs2 := hb2.size
    by_cases hl : listB n t = true
    · have HL := Lib.hid hl
      go_wp2
      go_ret
      exact ⟨ret_int (by simp [errB, HV.out, HL.out]), ((below_alloc1 _ _).trans (hb1.mono (by simp))).trans (hb2.mono (by omega))⟩
    · have HL := Lib.hid hl
      replace hl : listB n t = false := by simpa using hl
      go_wp2
      go_ret
      exact ⟨ret_int (by simp [errB, HV.out, HL.out]), ((below_alloc1 _ _).trans (hb1.mono (by simp))).trans (hb2.mono (by omega))⟩
  · have HV := Lib.hid hv
    replace hv : h.valid = false := by simpa using hv
    go_wp2
    go_ret
    exact ⟨ret_int (by simp [errB, HV.out]), (below_alloc1 _ _).trans (hb1.mono (by simp))⟩
def wantB (a : Nat × Bool) : Bool := a.1 == 0 && a.2 == false
/-- Starved of a valid house and size -/
def House.starvedR (h : House) (m : Meter) : Nat × Bool × Nat := if h.valid then (if m.valid then (if wantB (h.starved m) then (0, false, 4) else ((h.starved m).1, (h.starved m).2, 0)) else (0, false, 2)) else (0, false, 1)
set_option maxHeartbeats 400000 in
theorem Starved_any (h : House) (m : Meter) (ta ra : Option Addr) (tc rc : Nat) (w : World) (g1 : h.nt ≤ 1000000) (g2 : h.nr ≤ 1000000) (hT : TapsAt w ta h.nt h.t) (hR : RulesAt w ra h.nr h.r) :
    Calls Try.prog 16 #[houseV h ta ra tc rc, m.val] w fun e w' => e = .returned (.tuple #[.int .i64 ((h.starvedR m).1 : Nat), .bool (h.starvedR m).2.1, .int .i64 ((h.starvedR m).2.2 : Nat)]) ∧ Below w.heap.size w w' := by
  have HT := Lib.hid hT
  have HR := Lib.hid hR
  clear hT hR
  have hb0 : Below w.heap.size w ((w.alloc (.cells #[.int .i64 h.head, .int .i64 h.drip, .slice ta h.nt tc, .slice ra h.nr rc] 25)).alloc (.cells #[.int .i64 m.start, .int .i64 m.full, .int .i64 m.loss, .int .i64 m.price] 27)) := (by repeat' (first | exact Below.refl _ _ | assumption | apply below_drewN | apply Below.drew | (refine Below.alloc ?_ ?_ _) | (refine Below.setCell ?_ ?_ _) | (simp; done) | (simp; omega) | omega))
  go_enter Try.func16, Try.ntmps16
  go_wp2_with fail
  refine (isHouse_any h ta ra tc rc _ g1 g2 (HT.out.mono hb0) (HR.out.mono hb0)).mono ?_
  rintro e w1 ⟨rfl, hb1⟩
  have hs1 := hb1.size
  simp only [World.size_alloc] at hs1
  have q0 : w1.cell? ⟨w.heap.size, 0, none⟩ = some (.int .i64 h.head) := (hb1.cell (p := ⟨w.heap.size, 0, none⟩) (by simp; omega)).trans (by simp [go_sem])
  have q1 : w1.cell? ⟨w.heap.size, 1, none⟩ = some (.int .i64 h.drip) := (hb1.cell (p := ⟨w.heap.size, 1, none⟩) (by simp; omega)).trans (by simp [go_sem])
  have q2 : w1.cell? ⟨w.heap.size, 2, none⟩ = some (.slice ta h.nt tc) := (hb1.cell (p := ⟨w.heap.size, 2, none⟩) (by simp; omega)).trans (by simp [go_sem])
  have q3 : w1.cell? ⟨w.heap.size, 3, none⟩ = some (.slice ra h.nr rc) := (hb1.cell (p := ⟨w.heap.size, 3, none⟩) (by simp; omega)).trans (by simp [go_sem])
  have p0 : w1.cell? ⟨w.heap.size + 1, 0, none⟩ = some (.int .i64 m.start) := (hb1.cell (p := ⟨w.heap.size + 1, 0, none⟩) (by simp)).trans (by simp [go_sem])
  have p1 : w1.cell? ⟨w.heap.size + 1, 1, none⟩ = some (.int .i64 m.full) := (hb1.cell (p := ⟨w.heap.size + 1, 1, none⟩) (by simp)).trans (by simp [go_sem])
  have p2 : w1.cell? ⟨w.heap.size + 1, 2, none⟩ = some (.int .i64 m.loss) := (hb1.cell (p := ⟨w.heap.size + 1, 2, none⟩) (by simp)).trans (by simp [go_sem])
  have p3 : w1.cell? ⟨w.heap.size + 1, 3, none⟩ = some (.int .i64 m.price) := (hb1.cell (p := ⟨w.heap.size + 1, 3, none⟩) (by simp)).trans (by simp [go_sem])
  have hb2 := hb0.trans (hb1.mono (by simp; omega))
  clear hb1 hb0
  by_cases hv : h.valid = true
  · have HV := Lib.hid hv
    go_wp2_with fail
    refine (isSize_any m _).mono ?_
    rintro e w2 ⟨rfl, hc1⟩
    have hs2 := hc1.size
    by_cases hm : m.valid = true
    · have HM := Lib.hid hm
      have hfair : m.fair := by
        simp only [Meter.valid, withinB, Bool.and_eq_true, decide_eq_true_eq] at hm
        exact ⟨hm.1.1.1.1, hm.1.1.1.2, hm.1.2.1, hm.1.2.2⟩
      have HF := Lib.hid hfair
      clear hfair
      have r0 := (hc1.cell (p := ⟨w.heap.size, 0, none⟩) (by dsimp only; omega)).trans q0
      have r1 := (hc1.cell (p := ⟨w.heap.size, 1, none⟩) (by dsimp only; omega)).trans q1
      have r2 := (hc1.cell (p := ⟨w.heap.size, 2, none⟩) (by dsimp only; omega)).trans q2
      have r3 := (hc1.cell (p := ⟨w.heap.size, 3, none⟩) (by dsimp only; omega)).trans q3
      have s0 := (hc1.cell (p := ⟨w.heap.size + 1, 0, none⟩) (by dsimp only; omega)).trans p0
      have s1 := (hc1.cell (p := ⟨w.heap.size + 1, 1, none⟩) (by dsimp only; omega)).trans p1
      have s2 := (hc1.cell (p := ⟨w.heap.size + 1, 2, none⟩) (by dsimp only; omega)).trans p2
      have s3 := (hc1.cell (p := ⟨w.heap.size + 1, 3, none⟩) (by dsimp only; omega)).trans p3
      have hb3 := hb2.trans (hc1.mono (by omega))
      clear hb2 hc1 q0 q1 q2 q3 p0 p1 p2 p3
      go_wp2_with fail
      refine (starved_any h m HV.out HF.out ta ra tc rc _ (HT.out.mono hb3) (HR.out.mono hb3)).mono ?_
      rintro e w3 ⟨rfl, hd1⟩
      have hs3 := hd1.size
      have hb4 := hb3.trans (hd1.mono (by omega))
      clear hd1 hb3
      obtain ⟨⟨a, b⟩, hab⟩ : ∃ ab, ab = h.starved m := ⟨_, rfl⟩
      rw [← hab]
      have HAB := Lib.hid hab
      clear hab
      dsimp only
      go_wp2
      · go_region
        go_wp2
        go_ret3
        have h1 : a = 0 := by assumption
        have h2 : b = true := by assumption
        subst h1; subst h2
        exact ⟨by simp [House.starvedR, HV.out, HM.out, ← HAB.out, wantB], (by repeat' (first | exact Below.refl _ _ | assumption | apply below_drewN | apply Below.drew | (refine Below.alloc ?_ ?_ _) | (refine Below.setCell ?_ ?_ _) | (simp; done) | (simp; omega) | omega))⟩
      · go_ret3
        have h1 : a = 0 := by assumption
        have h2 : ¬ b = true := by assumption
        exact ⟨by simp [House.starvedR, HV.out, HM.out, ← HAB.out, wantB, h1, h2], (by repeat' (first | exact Below.refl _ _ | assumption | apply below_drewN | apply Below.drew | (refine Below.alloc ?_ ?_ _) | (refine Below.setCell ?_ ?_ _) | (simp; done) | (simp; omega) | omega))⟩
      · go_region
        go_wp2
        go_ret3
        have h1 : ¬ a = 0 := by assumption
        exact ⟨by simp [House.starvedR, HV.out, HM.out, ← HAB.out, wantB, h1], (by repeat' (first | exact Below.refl _ _ | assumption | apply below_drewN | apply Below.drew | (refine Below.alloc ?_ ?_ _) | (refine Below.setCell ?_ ?_ _) | (simp; done) | (simp; omega) | omega))⟩
    · replace hm : m.valid = false := by simpa using hm
      have HM := Lib.hid hm
      clear q0 q1 q2 q3 p0 p1 p2 p3
      go_wp2
      go_ret3
      exact ⟨by simp [House.starvedR, HV.out, HM.out], hb2.trans (hc1.mono (by omega))⟩
  · replace hv : h.valid = false := by simpa using hv
    have HV := Lib.hid hv
    clear q0 q1 q2 q3 p0 p1 p2 p3
    go_wp2
    go_ret3
    exact ⟨by simp [House.starvedR, HV.out], hb2⟩
end Go.Proofs.Ytckagcbjcpfjpaa
