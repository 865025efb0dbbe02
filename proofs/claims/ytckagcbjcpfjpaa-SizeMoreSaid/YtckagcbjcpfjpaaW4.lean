/- The counts of bits return the count of the bits of a number below 2 to the 32. -/
import Derived.Test.YtckagcbjcpfjpaaW3
namespace Go.Proofs.Ytckagcbjcpfjpaa
open Go.RowKit
/-- a house as Lean data -/
structure House where
  head : Int
  drip : Int
  nt : Nat
  t : Nat → Tap
  nr : Nat
  r : Nat → Rule
def House.valid (h : House) : Bool :=
  withinB h.nt 1 10 && decide (h.nr ≤ 8) && withinB h.head 0 10000 && withinB h.drip 0 1000000 && !anyB h.nt (fun i => tapBad (h.t i).lo (h.t i).hi (h.t i).need) && !anyB h.nr (fun i => ruleBad h.nt (h.r i).taps (h.r i).most)
abbrev houseV (h : House) (ta ra : Option Addr) (tc rc : Nat) : Value := .agg #[.int .i64 h.head, .int .i64 h.drip, .slice ta h.nt tc, .slice ra h.nr rc]

theorem below_alloc1 (w : World) (o : Obj) : Below w.heap.size w (w.alloc o) := (Below.refl _ _).alloc (Nat.le_refl _) _

set_option maxHeartbeats 400000 in
theorem isHouse_any (h : House) (ta ra : Option Addr) (tc rc : Nat) (w : World) (h1 : h.nt ≤ 1000000) (h2 : h.nr ≤ 1000000) (hT : TapsAt w ta h.nt h.t) (hR : RulesAt w ra h.nr h.r) :
    Calls Try.prog 35 #[houseV h ta ra tc rc] w fun e w' => e = .returned (.bool h.valid) ∧ Below w.heap.size w w' := by
  obtain ⟨head, drip, nt, t, nr, r⟩ := h
  dsimp only at h1 h2 hT hR
  have HT := Lib.hid (fun o => hT.mono (below_alloc1 w o))
  have HR := Lib.hid (fun o => hR.mono (below_alloc1 w o))
  clear hT hR
  by_cases c1 : withinB nt 1 10 = true
  · by_cases c2 : nr ≤ 8
    · by_cases c3 : withinB head 0 10000 = true
      · by_cases c4 : withinB drip 0 1000000 = true
        · have h12 : 1 ≤ nt ∧ nt ≤ 10 := by simp [withinB] at c1; omega
          have H12 := Lib.hid h12
          clear h12
          have C1 := Lib.hid c1
          have C2 := Lib.hid c2
          have C3 := Lib.hid c3
          have C4 := Lib.hid c4
          go_enter Try.func35, Try.ntmps35
          go_wp2_with (first | (go_at_call 50; refine (within_any _ _ _ _).mono ?_; rintro e w' ⟨rfl, rfl⟩) | (go_at_call 43; refine (isHead_any _ _).mono ?_; rintro e w' ⟨rfl, rfl⟩) | fail)
          refine (containsTaps_any _ _ _ t _ h1 (HT.out _)).mono ?_
          rintro e w1 ⟨rfl, hb1⟩
          have hsz := hb1.size
          have hd := hb1.cell (p := ⟨w.heap.size, 3, none⟩) (by simp)
          have hd2 := hb1.cell (p := ⟨w.heap.size, 2, none⟩) (by simp)
          simp [go_sem] at hsz hd hd2
          by_cases c5 : anyB nt (fun i => tapBad (t i).lo (t i).hi (t i).need) = true
          · have C5 := Lib.hid c5
            go_wp2
            go_ret
            exact ⟨ret_bool (by simp [House.valid, C5.out]), (Below.trans ((by repeat' (first | exact Below.refl _ _ | assumption | apply below_drewN | apply Below.drew | (refine Below.alloc ?_ ?_ _) | (refine Below.setCell ?_ ?_ _) | (simp; done) | (simp; omega) | omega))) (Below.mono hb1 (by simp <;> omega)))⟩
          · replace c5 : anyB nt (fun i => tapBad (t i).lo (t i).hi (t i).need) = false := by simpa using c5
            have C5 := Lib.hid c5
            go_wp2_with fail
            refine (containsRules_any _ _ _ r ta nt tc _ _ h2 ((HR.out _).mono hb1) H12.out.1 H12.out.2 (by omega) hd2).mono ?_
            rintro e w2 ⟨rfl, hb2⟩
            have hsz2 := hb2.size
            go_wp2
            go_ret
            exact ⟨ret_bool (by simp [House.valid, C5.out, C1.out, C2.out, C3.out, C4.out]), Below.trans (Below.trans ((by repeat' (first | exact Below.refl _ _ | assumption | apply below_drewN | apply Below.drew | (refine Below.alloc ?_ ?_ _) | (refine Below.setCell ?_ ?_ _) | (simp; done) | (simp; omega) | omega))) (Below.mono hb1 (by simp <;> omega))) (hb2.mono (by omega))⟩
        · replace c4 : withinB drip 0 1000000 = false := by simpa using c4
          have C4 := Lib.hid c4
          go_enter Try.func35, Try.ntmps35
          go_wp2_with (first | (go_at_call 50; refine (within_any _ _ _ _).mono ?_; rintro e w' ⟨rfl, rfl⟩) | (go_at_call 43; refine (isHead_any _ _).mono ?_; rintro e w' ⟨rfl, rfl⟩))
          go_ret
          exact ⟨ret_bool (by simp [House.valid, C4.out]), (by repeat' (first | exact Below.refl _ _ | assumption | apply below_drewN | apply Below.drew | (refine Below.alloc ?_ ?_ _) | (refine Below.setCell ?_ ?_ _) | (simp; done) | (simp; omega) | omega))⟩
      · replace c3 : withinB head 0 10000 = false := by simpa using c3
        have C3 := Lib.hid c3
        go_enter Try.func35, Try.ntmps35
        go_wp2_with (first | (go_at_call 50; refine (within_any _ _ _ _).mono ?_; rintro e w' ⟨rfl, rfl⟩) | (go_at_call 43; refine (isHead_any _ _).mono ?_; rintro e w' ⟨rfl, rfl⟩))
        go_ret
        exact ⟨ret_bool (by simp [House.valid, C3.out]), (by repeat' (first | exact Below.refl _ _ | assumption | apply below_drewN | apply Below.drew | (refine Below.alloc ?_ ?_ _) | (refine Below.setCell ?_ ?_ _) | (simp; done) | (simp; omega) | omega))⟩
    · have C2 := Lib.hid c2
      go_enter Try.func35, Try.ntmps35
      go_wp2_with (first | (go_at_call 50; refine (within_any _ _ _ _).mono ?_; rintro e w' ⟨rfl, rfl⟩) | (go_at_call 43; refine (isHead_any _ _).mono ?_; rintro e w' ⟨rfl, rfl⟩))
      go_ret
      exact ⟨ret_bool (by simp [House.valid, C2.out]), (by repeat' (first | exact Below.refl _ _ | assumption | apply below_drewN | apply Below.drew | (refine Below.alloc ?_ ?_ _) | (refine Below.setCell ?_ ?_ _) | (simp; done) | (simp; omega) | omega))⟩
  · replace c1 : withinB nt 1 10 = false := by simpa using c1
    have C1 := Lib.hid c1
    go_enter Try.func35, Try.ntmps35
    go_wp2_with (first | (go_at_call 50; refine (within_any _ _ _ _).mono ?_; rintro e w' ⟨rfl, rfl⟩) | (go_at_call 43; refine (isHead_any _ _).mono ?_; rintro e w' ⟨rfl, rfl⟩))
    go_ret
    exact ⟨ret_bool (by simp [House.valid, C1.out]), (by repeat' (first | exact Below.refl _ _ | assumption | apply below_drewN | apply Below.drew | (refine Below.alloc ?_ ?_ _) | (refine Below.setCell ?_ ?_ _) | (simp; done) | (simp; omega) | omega))⟩
end Go.Proofs.Ytckagcbjcpfjpaa
