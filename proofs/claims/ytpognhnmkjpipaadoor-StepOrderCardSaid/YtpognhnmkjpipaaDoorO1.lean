/- StepOrder's closure 'turned': a set whose streets are turned. -/
import Derived.Test.YtpognhnmkjpipaaDoorL6
import Derived.Test.YtpognhnmkjpipaaDoorP16
namespace Go.Proofs.YtpognhnmkjpipaaDoor
open Go.RowKit
set_option maxRecDepth 100000 in
set_option maxHeartbeats 4000000 in
theorem turned_any (z : Int) (gn gk n k : Nat) (w : World) (hn1 : 1 ≤ n) (hn : n ≤ 10) (hk : k < 256) (hN : Box gn #[.int .i64 (n : Nat)] 3 w) (hK : Box gk #[.int .u8 (k : Nat)] 5 w) :
    Calls Tryd.prog 25 #[.int .i64 z, .pointer (some ⟨gn, 0, none⟩), .pointer (some ⟨gk, 0, none⟩)] w fun e w' => e = .returned (.int .i64 (turnZ n k z)) ∧ Below w.heap.size w w' := by
  have HN := Lib.hid hN
  have HK := Lib.hid hK
  have n0 := hN.cell 0 (v := .int .i64 (n : Nat)) rfl
  have n1 := hN.lt
  clear hN hK
  have h10 := pow_ten hn
  go_enter Tryd.func25, Tryd.ntmps25
  by_cases hz0 : z < 0
  · have d0 : decide (z < 0) = true := decide_eq_true hz0
    go_wp2_with fail
    go_ret
    exact ⟨by rw [show turnZ n k z = z from if_neg (by omega)]; rfl, Below.refl _ _⟩
  have d0 : decide (z < 0) = false := decide_eq_false hz0
  have HP := Lib.hid (pow_wrap (n := n) hn)
  by_cases hz1 : ((2 ^ n : Nat) : Int) ≤ z
  · have d1 : decide (wrap64 ((2 : Int) ^ n) ≤ z) = true := by rw [HP.out]; exact decide_eq_true hz1
    go_wp2_with fail
    go_ret
    exact ⟨by rw [show turnZ n k z = z from if_neg (by omega)]; rfl, Below.refl _ _⟩
  have d1 : decide (wrap64 ((2 : Int) ^ n) ≤ z) = false := by rw [HP.out]; exact decide_eq_false hz1
  obtain ⟨x, rfl⟩ : ∃ x : Nat, z = x := ⟨z.toNat, by omega⟩
  have hx : x < 2 ^ n := by omega
  clear hz1 hz0
  go_wp2_with fail
  go_loopw [5, 6] (fun v5 v6 wr => ∃ i : Nat, i ≤ n ∧ v6 = .int .i64 (i : Nat) ∧ v5 = .int .i64 (turnK n k x i : Nat) ∧ Below w.heap.size w wr) (fun _ v6 _ => n - (intOf v6).toNat)
  case atStart => exact ⟨0, Nat.zero_le _, rfl, rfl, Below.refl _ _⟩
  case round =>
    obtain ⟨i, hi, rfl, rfl, hb⟩ := hrel
    have HB := Lib.hid hb
    have HN2 := HN.out.below hb
    have HK2 := HK.out.below hb
    have n2 := HN2.cell 0 (v := .int .i64 (n : Nat)) rfl
    have n3 := HN2.lt
    have k2 := HK2.cell 0 (v := .int .u8 (k : Nat)) rfl
    have k3 := HK2.lt
    obtain ⟨q1, q2, q3⟩ := turnK_facts k x hn i hi
    clear hb HN2 HK2 n0 n1 q2 q3
    by_cases hin : i < n
    · have d3 : decide (i < n) = true := decide_eq_true hin
      have d4 : decide ((i : Int) < (n : Int)) = true := decide_eq_true (by omega)
      go_wp2_with fail
      refine (has_b x i _ (by omega) (by omega)).mono ?_
      rintro e X4 ⟨rfl, hb4⟩
      have HB4 := Lib.hid (HB.out.trans (hb4.mono HB.out.size))
      have HN4 := Lib.hid ((HN.out.below HB4.out))
      have HK4 := Lib.hid ((HK.out.below HB4.out))
      clear hb4 n2 n3 k2 k3 d3 d4
      have e9 : turnK n k x (i + 1) = if hasB x i then turnK n k x i + 2 ^ rot n k i else turnK n k x i := rfl
      cases hh : hasB x i
      · rw [hh] at e9
        have E9 := Lib.hid e9
        clear hh e9
        go_wp2_with fail
        go_roundw
        case rel => exact ⟨i + 1, by omega, by go_num, by rw [E9.out]; rfl, HB4.out⟩
        case measure => simp [intOf]; omega
      · rw [hh] at e9
        obtain ⟨r, hr⟩ : ∃ r, r = rot n k i := ⟨_, rfl⟩
        have hr2 : r < n := by rw [hr]; exact rot_lt (by omega) _ _
        have hr3 : r = (i + k) % n := hr
        rw [← hr] at e9
        have E9 := Lib.hid e9
        clear hh e9 hr
        have hmk : ((i : Int) + (k : Int)) % (n : Int) = (r : Int) := by rw [hr3]; simp
        have hmk2 : ((i : Int) + (k : Int)).tmod (n : Int) = (r : Int) := by rw [Int.tmod_eq_emod_of_nonneg (by omega)]; exact hmk
        have hr10 : r ≤ 10 := by omega
        have hn0 : (n : Int) ≠ 0 := by omega
        have P2 := pow_wrap (n := r) hr10
        have hps : 2 ^ r ≤ 1024 := pow_ten hr10
        have hAW : wrap64 ((turnK n k x i : Nat) + wrap64 ((2 : Int) ^ r)) = ((turnK n k x i + 2 ^ r : Nat) : Int) := by
          have q9 : ∀ x M : Nat, x < 1024 → M ≤ 1024 → wrap64 ((x : Int) + (M : Int)) = ((x + M : Nat) : Int) := fun x M h1 h2 => by unfold wrap64; omega
          rw [P2]; exact q9 _ (2 ^ r) (by omega) hps
        have HAW := Lib.hid hAW
        clear hAW P2 hr3
        have n4 := HN4.out.cell 0 (v := .int .i64 (n : Nat)) rfl
        have n5 := HN4.out.lt
        have k4 := HK4.out.cell 0 (v := .int .u8 (k : Nat)) rfl
        have k5 := HK4.out.lt
        go_wp2_with fail
        rw [HAW.out]
        go_roundw
        case rel => exact ⟨i + 1, by omega, by go_num, by rw [E9.out]; rfl, HB4.out⟩
        case measure => simp [intOf]; omega
    · obtain rfl : i = n := by omega
      have d3 : decide (i < i) = false := by simp
      have d4 : decide ((i : Int) < (i : Int)) = false := by simp
      go_wp2_with fail
      go_ret
      exact ⟨by rw [show turnZ i k (x : Nat) = ((turnN i k x : Nat) : Int) from if_pos ⟨by omega, by omega⟩]; rfl, HB.out⟩
end Go.Proofs.YtpognhnmkjpipaaDoor
