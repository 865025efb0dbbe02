/- The document's side of chapter 08: House says what the program's own test says. -/
import Derived.Test.YtckagcbjcpfjpaaR1
import Derived.Test.YtckagcbjcpfjpaaIter
import Derived.BigQuiet
namespace Go.Proofs.Ytckagcbjcpfjpaa
open Go.RowKit
theorem in_q (n low high : Int) (w : World) :
    Calls Try.prog 46 #[.int .i64 n, .int .i64 low, .int .i64 high] w fun e w' => e = .returned (.bool (withinB n low high)) ∧ w' = w :=
  (in_any n low high w).mono fun _ _ h => ⟨h.1, h.2.symm⟩
theorem power_q (n : Nat) (w : World) (hn : n ≤ 60) :
    Calls Try.prog 37 #[.int .i64 (n : Nat)] w fun e w' => e = .returned (.int .i64 (pw n)) ∧ w' = w :=
  (power_any n w hn).mono fun _ _ h => ⟨h.1, h.2.symm⟩
theorem wrap_pw (n : Nat) (hn : n ≤ 60) : IntKind.i64.wrap (pw n - 1) = pw n - 1 := by
  have := pw_le n hn
  have := pw_pos n
  exact IntWalk.i64_in _ (by omega)
theorem pw_two (n : Nat) : pw n = 2 ^ n := by simp [pw]
theorem not_valid_tap {h : House} {k : Nat} (hk : k < h.nt) (hb : tapBad (h.t k).lo (h.t k).hi (h.t k).need = true) : h.valid = false := by
  have : anyB h.nt (fun i => tapBad (h.t i).lo (h.t i).hi (h.t i).need) = true := anyB_iff.2 ⟨k, hk, hb⟩
  simp [House.valid, this]
theorem not_valid_rule {h : House} {k : Nat} (hk : k < h.nr) (hb : ruleBad h.nt (h.r k).taps (h.r k).most = true) : h.valid = false := by
  have : anyB h.nr (fun i => ruleBad h.nt (h.r i).taps (h.r i).most) = true := anyB_iff.2 ⟨k, hk, hb⟩
  simp [House.valid, this]
theorem anyB_none {n : Nat} {p : Nat → Bool} (h : ∀ i, i < n → p i = false) : anyB n p = false := by
  cases hc : anyB n p with
  | false => rfl
  | true =>
    obtain ⟨i, hi, hp⟩ := anyB_iff.1 hc
    rw [h i hi] at hp; cases hp
theorem valid_of {h : House} (hv : withinB h.head 0 10000 = true ∧ withinB h.drip 0 1000000 = true ∧ withinB h.nt 1 10 = true ∧ decide (h.nr ≤ 8) = true)
    (h1 : ∀ i, i < h.nt → tapBad (h.t i).lo (h.t i).hi (h.t i).need = false) (h2 : ∀ i, i < h.nr → ruleBad h.nt (h.r i).taps (h.r i).most = false) : h.valid = true := by
  simp only [House.valid, hv.1, hv.2.1, hv.2.2.1, hv.2.2.2, anyB_none h1, anyB_none h2]
  rfl
set_option maxHeartbeats 8000000 in
theorem refHouse_not (h : House) (ta ra : Option Addr) (tc rc : Nat) (w : World) (hq : ¬ (withinB h.head 0 10000 && withinB h.drip 0 1000000 && withinB h.nt 1 10 && decide (h.nr ≤ 8)) = true) :
    Calls Try.prog 25 #[houseV h ta ra tc rc] w fun e w' => e = .returned (.bool h.valid) ∧ Below w.heap.size w w' := by
  rcases c1 : withinB h.head 0 10000 <;> rcases c2 : withinB h.drip 0 1000000 <;> rcases c3 : withinB h.nt 1 10 <;> rcases c4 : decide (h.nr ≤ 8)
  all_goals first
      | (exfalso; apply hq; rw [c1, c2, c3, c4]; rfl)
      | (clear hq
         have HF := Lib.hid (show h.valid = false by simp only [House.valid, c1, c2, c3, c4, Bool.false_and, Bool.and_false, Bool.true_and])
         have c5 : decide ((8 : Int) < (h.nr : Int)) = !(decide (h.nr ≤ 8)) := by by_cases hh : h.nr ≤ 8 <;> simp [hh] <;> omega
         rw [c4] at c5
         clear c4
         go_enter Try.func25, Try.ntmps25
         go_wp2_with (go_at_call 46; refine (in_any _ _ _ _).mono ?_; rintro e w' ⟨rfl, rfl⟩)
         go_ret
         exact ⟨ret_bool HF.out.symm, (by repeat' (first | exact Below.refl _ _ | assumption | apply below_drewN | apply Below.drew | (refine Below.alloc ?_ ?_ _) | (refine Below.setCell ?_ ?_ _) | (simp; done) | (simp; omega) | omega))⟩)
set_option maxHeartbeats 8000000 in
theorem refHouse_any (h : House) (ta ra : Option Addr) (tc rc : Nat) (w : World) (g1 : h.nt ≤ 1000000) (g2 : h.nr ≤ 1000000) (hT : TapsAt w ta h.nt h.t) (hR : RulesAt w ra h.nr h.r) :
    Calls Try.prog 25 #[houseV h ta ra tc rc] w fun e w' => e = .returned (.bool h.valid) ∧ Below w.heap.size w w' := by
  have HT := Lib.hid hT
  have HR := Lib.hid hR
  clear hT hR
  by_cases hq : (withinB h.head 0 10000 && withinB h.drip 0 1000000 && withinB h.nt 1 10 && decide (h.nr ≤ 8)) = true
  · simp only [Bool.and_eq_true] at hq
    obtain ⟨⟨⟨c1, c2⟩, c3⟩, c4⟩ := hq
    have HV := Lib.hid (And.intro c1 (And.intro c2 (And.intro c3 c4)))
    have hn : h.nt ≤ 10 := by simp [withinB] at c3; omega
    have hr8 : h.nr ≤ 8 := by simpa using c4
    clear c4
    go_enter Try.func25, Try.ntmps25
    go_wp2_with (go_at_call 46; refine (in_any _ _ _ _).mono ?_; rintro e w' ⟨rfl, rfl⟩)
    have k0 : (w.alloc (.cells #[.int .i64 h.head, .int .i64 h.drip, .slice ta h.nt tc, .slice ra h.nr rc] 25)).cell? ⟨w.heap.size, 2, none⟩ = some (.slice ta h.nt tc) := by simp [go_sem]
    have k1 : (w.alloc (.cells #[.int .i64 h.head, .int .i64 h.drip, .slice ta h.nt tc, .slice ra h.nr rc] 25)).cell? ⟨w.heap.size, 3, none⟩ = some (.slice ra h.nr rc) := by simp [go_sem]
    have kb := below_alloc1 w (.cells #[.int .i64 h.head, .int .i64 h.drip, .slice ta h.nt tc, .slice ra h.nr rc] 25)
    have ks : (w.alloc (.cells #[.int .i64 h.head, .int .i64 h.drip, .slice ta h.nt tc, .slice ra h.nr rc] 25)).heap.size = w.heap.size + 1 := by simp
    obtain ⟨W1, hW1⟩ : ∃ X, X = w.alloc (.cells #[.int .i64 h.head, .int .i64 h.drip, .slice ta h.nt tc, .slice ra h.nr rc] 25) := ⟨_, rfl⟩
    rw [← hW1] at k0 k1 kb ks ⊢
    clear hW1 c1 c2 c3
    go_loopw [3] (fun v3 wr => ∃ k : Nat, k ≤ h.nt ∧ v3 = .int .i64 k ∧ Below W1.heap.size W1 wr ∧ ∀ i, i < k → tapBad (h.t i).lo (h.t i).hi (h.t i).need = false) (fun i _ => h.nt - (intOf i).toNat)
    case atStart => exact ⟨0, Nat.zero_le _, rfl, Below.refl _ _, fun i hi => by omega⟩
    case round =>
      obtain ⟨k, hk, rfl, hb, hno⟩ := hrel
      have HN := Lib.hid hno
      clear hno
      have m0 := (hb.cell (p := ⟨w.heap.size, 2, none⟩) (by dsimp only; omega)).trans k0
      have m1 := (hb.cell (p := ⟨w.heap.size, 3, none⟩) (by dsimp only; omega)).trans k1
      have hbw := kb.trans (hb.mono (by omega))
      have hs := hb.size
      by_cases hlt : k < h.nt
      · obtain ⟨b, off, rfl, hlt0, h0, h1, h2⟩ := (HT.out.mono hbw) k hlt
        by_cases hbad : tapBad (h.t k).lo (h.t k).hi (h.t k).need = true
        · have HF := Lib.hid (not_valid_tap hlt hbad)
          rcases ca : decide ((h.t k).lo < 0) <;> rcases cb : decide ((h.t k).lo > (h.t k).hi) <;> rcases cc : decide ((h.t k).hi > 100000) <;> rcases cd : withinB (h.t k).need 0 10000
          all_goals first
            | (exfalso; simp only [decide_eq_false_iff_not] at ca cb cc; simp [tapBad, cd] at hbad; omega)
            | (clear hbad
               go_wp2_with (go_at_call 46; refine (in_any _ _ _ _).mono ?_; rintro e w' ⟨rfl, rfl⟩)
               go_ret
               exact ⟨ret_bool HF.out.symm, hbw.alloc (by omega) _⟩)
        · replace hbad : tapBad (h.t k).lo (h.t k).hi (h.t k).need = false := by simpa using hbad
          have HB := Lib.hid hbad
          simp only [tapBad, Bool.or_eq_false_iff, decide_eq_false_iff_not, Bool.not_eq_false', not_or] at hbad
          obtain ⟨⟨ca, cb, cc⟩, cd⟩ := hbad
          go_wp2_with (go_at_call 46; refine (in_any _ _ _ _).mono ?_; rintro e w' ⟨rfl, rfl⟩)
          go_roundw
          case rel => exact ⟨k + 1, by omega, by go_num, hb.alloc (by omega) _, fun i hi => by
            by_cases h : i = k
            · subst h; exact HB.out
            · exact HN.out i (by omega)⟩
          case measure => simp [intOf]; omega
      · obtain rfl : k = h.nt := by omega
        go_wp2
        go_loopw [5] (fun v5 wx => ∃ j : Nat, j ≤ h.nr ∧ v5 = .int .i64 j ∧ Below wr.heap.size wr wx ∧ ∀ i, i < j → ruleBad h.nt (h.r i).taps (h.r i).most = false) (fun i _ => h.nr - (intOf i).toNat)
        case atStart => exact ⟨0, Nat.zero_le _, rfl, Below.refl _ _, fun i hi => by omega⟩
        case round =>
          obtain ⟨j, hj, rfl, hb', hno'⟩ := hrel
          have HM := Lib.hid hno'
          clear hno'
          have q0 := (hb'.cell (p := ⟨w.heap.size, 2, none⟩) (by dsimp only; omega)).trans m0
          have q1 := (hb'.cell (p := ⟨w.heap.size, 3, none⟩) (by dsimp only; omega)).trans m1
          have hbx := hbw.trans (hb'.mono (by omega))
          have hs' := hb'.size
          clear m0 m1 k0 k1
          by_cases hlt' : j < h.nr
          · obtain ⟨b, off, rfl, hlt0, h0, h1⟩ := (HR.out.mono hbx) j hlt'
            have hn60 : h.nt ≤ 60 := by omega
            have e1 := wrap_pw h.nt hn60
            have e2 : wrap64 (pw h.nt - 1) = pw h.nt - 1 := (IntWalk.i64_left _).symm.trans e1
            by_cases hbad : ruleBad h.nt (h.r j).taps (h.r j).most = true
            · have HF := Lib.hid (not_valid_rule hlt' hbad)
              rcases ca : withinB (h.r j).taps 0 (pw h.nt - 1) <;> rcases cb : withinB (h.r j).most 0 10
              all_goals first
                | (exfalso; rw [pw_two] at ca; simp [ruleBad, ca, cb] at hbad; done)
                | (clear hbad
                   go_wp2
                   go_quiet (first | (go_at_call 46; exact Calls.quiet_of_same (in_q _ _ _ _)) | (go_at_call 37; exact Calls.quiet_of_same (power_q _ _ hn60)))
                   go_wp2
                   go_ret
                   exact ⟨ret_bool HF.out.symm, below_drewN hbx _⟩)
            · replace hbad : ruleBad h.nt (h.r j).taps (h.r j).most = false := by simpa using hbad
              have HB := Lib.hid hbad
              simp only [ruleBad, Bool.or_eq_false_iff, Bool.not_eq_false'] at hbad
              obtain ⟨ca, cb⟩ := hbad
              rw [← pw_two] at ca
              go_wp2
              go_quiet (first | (go_at_call 46; exact Calls.quiet_of_same (in_q _ _ _ _)) | (go_at_call 37; exact Calls.quiet_of_same (power_q _ _ hn60)))
              go_wp2
              go_roundw
              case rel => exact ⟨j + 1, by omega, by go_num, below_drewN hb' _, fun i hi => by
                by_cases h : i = j
                · subst h; exact HB.out
                · exact HM.out i (by omega)⟩
              case measure => simp [intOf]; omega
          · obtain rfl : j = h.nr := by omega
            go_wp2
            go_ret
            exact ⟨ret_bool (valid_of HV.out HN.out HM.out).symm, hbx⟩
  · exact refHouse_not h ta ra tc rc w hq
end Go.Proofs.Ytckagcbjcpfjpaa
