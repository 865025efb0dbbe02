/- A bench is valid as the program and the document say; no conditions but the length of its table. -/
import Derived.Test.YthoefcpeagclbaaW4
import Derived.Test.YthoefcpeagclbaaBox
namespace Go.Proofs.Ythoefcpeagclbaa
open Go.RowKit
/-- a mark of a table is right, beside the one before it -/
def markOk (weighs : Bool) (t : Nat → Mark) (i : Nat) : Bool :=
  withinB (t i).at_ 0 10000 && withinB (t i).value 1 10000000 && (decide (i = 0) || (decide ((t (i - 1)).at_ < (t i).at_) && (weighs || decide ((t (i - 1)).value ≤ (t i).value))))
def allB (n : Nat) (p : Nat → Bool) : Bool := (List.range n).all p
theorem allB_iff {n : Nat} {p : Nat → Bool} : allB n p = true ↔ ∀ i, i < n → p i = true := by simp [allB, List.all_eq_true]
theorem allB_false {n k : Nat} {p : Nat → Bool} (h : k < n) (hp : p k = false) : allB n p = false := by
  rw [Bool.eq_false_iff]
  intro ha
  rw [allB_iff.1 ha k h] at hp
  cases hp
def Bnch.valid (b : Bnch) : Bool := allB b.n (markOk b.weighs b.t) && (withinB b.n 2 12 && withinB b.off 0 10000000 && spanB b.buoy 0 10000 && spanB b.air 0 10000000)
theorem mark_bad1 {g : Bool} {t : Nat → Mark} {k : Nat} (h : withinB (t k).at_ 0 10000 = false) : markOk g t k = false := by simp [markOk, h]
theorem mark_bad2 {g : Bool} {t : Nat → Mark} {k : Nat} (h : withinB (t k).value 1 10000000 = false) : markOk g t k = false := by simp [markOk, h]
theorem mark_bad3 {g : Bool} {t : Nat → Mark} {k : Nat} (h0 : 0 < k) (h : decide ((t k).at_ ≤ (t (k - 1)).at_) = true) : markOk g t k = false := by simp [markOk] at *; omega
theorem mark_bad4 {t : Nat → Mark} {k : Nat} (h0 : 0 < k) (h : decide ((t k).value < (t (k - 1)).value) = true) : markOk false t k = false := by simp [markOk] at *; omega
theorem mark_ok0 {g : Bool} {t : Nat → Mark} {k : Nat} (h0 : k = 0) (h1 : withinB (t k).at_ 0 10000 = true) (h2 : withinB (t k).value 1 10000000 = true) : markOk g t k = true := by subst h0; simp [markOk, h1, h2]
theorem mark_ok1 {t : Nat → Mark} {k : Nat} (h1 : withinB (t k).at_ 0 10000 = true) (h2 : withinB (t k).value 1 10000000 = true) (h3 : decide ((t k).at_ ≤ (t (k - 1)).at_) = false) : markOk true t k = true := by
  simp [markOk, h1, h2] at *; omega
theorem mark_ok2 {t : Nat → Mark} {k : Nat} (h1 : withinB (t k).at_ 0 10000 = true) (h2 : withinB (t k).value 1 10000000 = true) (h3 : decide ((t k).at_ ≤ (t (k - 1)).at_) = false) (h4 : decide ((t k).value < (t (k - 1)).value) = false) : markOk false t k = true := by
  simp [markOk, h1, h2] at *; omega
theorem all_succ {p : Nat → Bool} {k : Nat} (h : ∀ i, i < k → p i = true) (hk : p k = true) : ∀ i, i < k + 1 → p i = true := fun i hi => by
  by_cases e : i = k
  · subst e; exact hk
  · exact h i (by omega)
set_option maxRecDepth 100000 in
set_option maxHeartbeats 4000000 in
theorem isBench_any (b : Bnch) (oa : Option Addr) (cap : Nat) (w : World) (hn : b.n ≤ 1000000) (hT : MarksAt w oa b.n b.t) :
    Calls Try.prog 33 #[b.val oa cap] w fun e w' => e = .returned (.bool b.valid) ∧ Below w.heap.size w w' := by
  have HT := Lib.hid hT
  clear hT
  go_enter Try.func33, Try.ntmps33
  go_wp2_with fail
  have HB := Lib.hid (Box.new #[.bool b.weighs, .slice oa b.n cap, .int .i64 b.off, .int .i64 b.buoy.lo, .int .i64 b.buoy.hi, .int .i64 b.air.lo, .int .i64 b.air.hi] 26 w rfl)
  have hbw := below_alloc1 w (.cells #[.bool b.weighs, .slice oa b.n cap, .int .i64 b.off, .int .i64 b.buoy.lo, .int .i64 b.buoy.hi, .int .i64 b.air.lo, .int .i64 b.air.hi] 26)
  obtain ⟨w0, hw0⟩ : ∃ X, X = w.alloc (.cells #[.bool b.weighs, .slice oa b.n cap, .int .i64 b.off, .int .i64 b.buoy.lo, .int .i64 b.buoy.hi, .int .i64 b.air.lo, .int .i64 b.air.hi] 26) := ⟨_, rfl⟩
  rw [← hw0] at HB hbw ⊢
  clear hw0
  go_loopw [8] (fun v8 wr => ∃ k : Nat, k ≤ b.n ∧ v8 = .int .i64 k ∧ Below w0.heap.size w0 wr ∧ ∀ i, i < k → markOk b.weighs b.t i = true) (fun i _ => b.n - (intOf i).toNat)
  case atStart => exact ⟨0, Nat.zero_le _, rfl, Below.refl _ _, fun i hi => by omega⟩
  case round =>
    obtain ⟨k, hk, rfl, hb, hall⟩ := hrel
    have HA := Lib.hid hall
    have HB2 := Lib.hid (HB.out.below hb)
    have hbr := hbw.trans (hb.mono hbw.size)
    have hsr := hbr.size
    have hs0 := HB.out.lt
    have hs1 := HB2.out.lt
    have hs2 : ¬ w.heap.size = wr.heap.size := by omega
    have hs3 := hb.size
    obtain ⟨g0, g1, g2, g3, g4, g5, g6, -⟩ := BB.cells (b := b) HB2.out
    clear hs0
    clear hall
    by_cases hlt : k < b.n
    · obtain ⟨bb, off, rfl, hlt0, h0, h1⟩ := (HT.out.mono hbr) k hlt
      by_cases c1 : withinB (b.t k).at_ 0 10000 = true
      · by_cases c2 : withinB (b.t k).value 1 10000000 = true
        · by_cases c0 : k = 0
          · have d0 : decide ((0 : Int) < (k : Int)) = false := by simp [c0]
            have d0' : decide (0 < k) = false := by simp [c0]
            have HM := Lib.hid (mark_ok0 (g := b.weighs) c0 c1 c2)
            clear c0
            go_wp2_with (go_at_call 43; refine (within_any _ _ _ _).mono ?_; rintro e w1 ⟨rfl, rfl⟩)
            go_big_quiet (fail)
            go_wp2_with (go_at_call 43; refine (within_any _ _ _ _).mono ?_; rintro e w1 ⟨rfl, rfl⟩)
            go_roundw
            case rel => exact ⟨k + 1, by omega, by go_num, (by repeat' (first | exact Below.refl _ _ | assumption | apply below_drewN | apply Below.drew | (refine Below.alloc ?_ ?_ _) | (refine Below.setCell ?_ ?_ _) | (simp; done) | (simp; omega) | omega)), all_succ HA.out HM.out⟩
            case measure => simp [intOf]; omega
          · have c00 : 0 < k := by omega
            clear c0
            have d0 : decide ((0 : Int) < (k : Int)) = true := by simpa using c00
            obtain ⟨bb', off', e1, hlt1, q0, q1⟩ := (HT.out.mono hbr) (k - 1) (by omega)
            cases e1
            have ek : ((k : Int) - 1) = ((k - 1 : Nat) : Int) := by omega
            have ek1 : ((k : Int) - 1).toNat = k - 1 := by omega
            have ek2 : (0 : Int) ≤ (k : Int) - 1 := by omega
            have ek3 : (k : Int) - 1 < (b.n : Int) := by omega
            by_cases c3 : decide ((b.t k).at_ ≤ (b.t (k - 1)).at_) = true
            · have HM := Lib.hid (mark_bad3 (g := b.weighs) c00 c3)
              go_wp2_with (go_at_call 43; refine (within_any _ _ _ _).mono ?_; rintro e w1 ⟨rfl, rfl⟩)
              go_big_quiet (fail)
              go_wp2_with (go_at_call 43; refine (within_any _ _ _ _).mono ?_; rintro e w1 ⟨rfl, rfl⟩)
              go_ret
              exact ⟨ret_bool (by rw [Bnch.valid, allB_false hlt HM.out]; rfl), (by repeat' (first | exact Below.refl _ _ | assumption | apply below_drewN | apply Below.drew | (refine Below.alloc ?_ ?_ _) | (refine Below.setCell ?_ ?_ _) | (simp; done) | (simp; omega) | omega))⟩
            · replace c3 : decide ((b.t k).at_ ≤ (b.t (k - 1)).at_) = false := by simpa using c3
              by_cases c4 : b.weighs = true
              · have HM := Lib.hid (show markOk b.weighs b.t k = true by rw [c4]; exact mark_ok1 c1 c2 c3)
                rw [c4] at g0
                go_wp2_with (go_at_call 43; refine (within_any _ _ _ _).mono ?_; rintro e w1 ⟨rfl, rfl⟩)
                go_big_quiet (fail)
                go_wp2_with (go_at_call 43; refine (within_any _ _ _ _).mono ?_; rintro e w1 ⟨rfl, rfl⟩)
                go_roundw
                case rel => exact ⟨k + 1, by omega, by go_num, (by repeat' (first | exact Below.refl _ _ | assumption | apply below_drewN | apply Below.drew | (refine Below.alloc ?_ ?_ _) | (refine Below.setCell ?_ ?_ _) | (simp; done) | (simp; omega) | omega)), all_succ HA.out HM.out⟩
                case measure => simp [intOf]; omega
              · replace c4 : b.weighs = false := by simpa using c4
                rw [c4] at g0
                by_cases c5 : decide ((b.t k).value < (b.t (k - 1)).value) = true
                · have HM := Lib.hid (show markOk b.weighs b.t k = false by rw [c4]; exact mark_bad4 c00 c5)
                  go_wp2_with (go_at_call 43; refine (within_any _ _ _ _).mono ?_; rintro e w1 ⟨rfl, rfl⟩)
                  go_big_quiet (fail)
                  go_wp2_with (go_at_call 43; refine (within_any _ _ _ _).mono ?_; rintro e w1 ⟨rfl, rfl⟩)
                  go_ret
                  exact ⟨ret_bool (by rw [Bnch.valid, allB_false hlt HM.out]; rfl), (by repeat' (first | exact Below.refl _ _ | assumption | apply below_drewN | apply Below.drew | (refine Below.alloc ?_ ?_ _) | (refine Below.setCell ?_ ?_ _) | (simp; done) | (simp; omega) | omega))⟩
                · replace c5 : decide ((b.t k).value < (b.t (k - 1)).value) = false := by simpa using c5
                  have HM := Lib.hid (show markOk b.weighs b.t k = true by rw [c4]; exact mark_ok2 c1 c2 c3 c5)
                  go_wp2_with (go_at_call 43; refine (within_any _ _ _ _).mono ?_; rintro e w1 ⟨rfl, rfl⟩)
                  go_big_quiet (fail)
                  go_wp2_with (go_at_call 43; refine (within_any _ _ _ _).mono ?_; rintro e w1 ⟨rfl, rfl⟩)
                  go_roundw
                  case rel => exact ⟨k + 1, by omega, by go_num, (by repeat' (first | exact Below.refl _ _ | assumption | apply below_drewN | apply Below.drew | (refine Below.alloc ?_ ?_ _) | (refine Below.setCell ?_ ?_ _) | (simp; done) | (simp; omega) | omega)), all_succ HA.out HM.out⟩
                  case measure => simp [intOf]; omega
        · replace c2 : withinB (b.t k).value 1 10000000 = false := by simpa using c2
          have HM := Lib.hid (mark_bad2 (g := b.weighs) c2)
          go_wp2_with (go_at_call 43; refine (within_any _ _ _ _).mono ?_; rintro e w1 ⟨rfl, rfl⟩)
          go_ret
          exact ⟨ret_bool (by rw [Bnch.valid, allB_false hlt HM.out]; rfl), (by repeat' (first | exact Below.refl _ _ | assumption | apply below_drewN | apply Below.drew | (refine Below.alloc ?_ ?_ _) | (refine Below.setCell ?_ ?_ _) | (simp; done) | (simp; omega) | omega))⟩
      · replace c1 : withinB (b.t k).at_ 0 10000 = false := by simpa using c1
        have HM := Lib.hid (mark_bad1 (g := b.weighs) c1)
        go_wp2_with (go_at_call 43; refine (within_any _ _ _ _).mono ?_; rintro e w1 ⟨rfl, rfl⟩)
        go_ret
        exact ⟨ret_bool (by rw [Bnch.valid, allB_false hlt HM.out]; rfl), (by repeat' (first | exact Below.refl _ _ | assumption | apply below_drewN | apply Below.drew | (refine Below.alloc ?_ ?_ _) | (refine Below.setCell ?_ ?_ _) | (simp; done) | (simp; omega) | omega))⟩
    · have HT2 := Lib.hid (show allB b.n (markOk b.weighs b.t) = true from allB_iff.2 (fun i hi => HA.out i (by omega)))
      clear HB HB2 HT
      by_cases c1 : withinB (b.n : Int) 2 12 = true
      · by_cases c2 : withinB b.off 0 10000000 = true
        · skip
          go_wp2_with (go_at_call 43; refine (within_any _ _ _ _).mono ?_; rintro e w1 ⟨rfl, rfl⟩)
          refine (isSpan_any b.buoy _ _ _).mono ?_
          rintro e w2 ⟨rfl, hb2⟩
          have hbr2 := hbr.trans (hb2.mono hbr.size)
          have y5 := (hb2.cell (p := ⟨w.heap.size, 5, none⟩) hs1).trans g5
          have y6 := (hb2.cell (p := ⟨w.heap.size, 6, none⟩) hs1).trans g6
          by_cases c3 : spanB b.buoy 0 10000 = true
          · skip
            go_wp2_with (go_at_call 43; refine (within_any _ _ _ _).mono ?_; rintro e w1 ⟨rfl, rfl⟩)
            refine (isSpan_any b.air _ _ _).mono ?_
            rintro e w3 ⟨rfl, hb3⟩
            have hbr3 := hbr2.trans (hb3.mono hbr2.size)
            go_wp2_with (go_at_call 43; refine (within_any _ _ _ _).mono ?_; rintro e w1 ⟨rfl, rfl⟩)
            go_ret
            exact ⟨ret_bool (by simp [Bnch.valid, HT2.out, c1, c2, c3]), (by repeat' (first | exact Below.refl _ _ | assumption | apply below_drewN | apply Below.drew | (refine Below.alloc ?_ ?_ _) | (refine Below.setCell ?_ ?_ _) | (simp; done) | (simp; omega) | omega))⟩
          · replace c3 : spanB b.buoy 0 10000 = false := by simpa using c3
            go_wp2_with (go_at_call 43; refine (within_any _ _ _ _).mono ?_; rintro e w1 ⟨rfl, rfl⟩)
            go_ret
            exact ⟨ret_bool (by simp [Bnch.valid, HT2.out, c1, c2, c3]), (by repeat' (first | exact Below.refl _ _ | assumption | apply below_drewN | apply Below.drew | (refine Below.alloc ?_ ?_ _) | (refine Below.setCell ?_ ?_ _) | (simp; done) | (simp; omega) | omega))⟩
        · replace c2 : withinB b.off 0 10000000 = false := by simpa using c2
          go_wp2_with (go_at_call 43; refine (within_any _ _ _ _).mono ?_; rintro e w1 ⟨rfl, rfl⟩)
          go_ret
          exact ⟨ret_bool (by simp [Bnch.valid, HT2.out, c1, c2]), (by repeat' (first | exact Below.refl _ _ | assumption | apply below_drewN | apply Below.drew | (refine Below.alloc ?_ ?_ _) | (refine Below.setCell ?_ ?_ _) | (simp; done) | (simp; omega) | omega))⟩
      · replace c1 : withinB (b.n : Int) 2 12 = false := by simpa using c1
        go_wp2_with (go_at_call 43; refine (within_any _ _ _ _).mono ?_; rintro e w1 ⟨rfl, rfl⟩)
        go_ret
        exact ⟨ret_bool (by simp [Bnch.valid, HT2.out, c1]), (by repeat' (first | exact Below.refl _ _ | assumption | apply below_drewN | apply Below.drew | (refine Below.alloc ?_ ?_ _) | (refine Below.setCell ?_ ?_ _) | (simp; done) | (simp; omega) | omega))⟩
end Go.Proofs.Ythoefcpeagclbaa
