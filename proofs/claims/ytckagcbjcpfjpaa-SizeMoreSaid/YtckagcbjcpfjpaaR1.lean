/- The document's side of chapter 08: in, power, Has. -/
import Derived.Test.YtckagcbjcpfjpaaW3
import Derived.Test.YtckagcbjcpfjpaaPlain2
namespace Go.Proofs.Ytckagcbjcpfjpaa
open Go.RowKit
set_option maxHeartbeats 400000 in
theorem in_any (n low high : Int) (w : World) :
    Calls Try.prog 46 #[.int .i64 n, .int .i64 low, .int .i64 high] w fun e w' => e = .returned (.bool (withinB n low high)) ∧ w = w' := by
  go_enter Try.func46, Try.ntmps46
  go_wp2
  all_goals (go_ret; exact ⟨ret_bool (by simp [withinB]; omega), rfl⟩)
/-- two to the power of n -/
def pw (n : Nat) : Int := ((2 ^ n : Nat) : Int)
theorem pw_succ (k : Nat) : pw (k + 1) = 2 * pw k := by simp [pw, Int.pow_succ]; omega
theorem pw_pos (k : Nat) : 0 < pw k := by
  have : 0 < 2 ^ k := Nat.pow_pos (by omega)
  unfold pw; omega
theorem pw_le (k : Nat) (hk : k ≤ 60) : pw k ≤ 1152921504606846976 := by
  have : 2 ^ k ≤ 2 ^ 60 := Nat.pow_le_pow_right (by omega) hk
  unfold pw; omega
theorem two_mul_pw (k : Nat) (hk : k < 60) : IntKind.i64.wrap (2 * pw k) = pw (k + 1) := by
  rw [pw_succ]
  have := pw_le k (by omega)
  have := pw_pos k
  exact IntWalk.i64_in _ (by omega)
set_option maxHeartbeats 400000 in
theorem power_any (n : Nat) (w : World) (hn : n ≤ 60) :
    Calls Try.prog 37 #[.int .i64 (n : Nat)] w fun e w' => e = .returned (.int .i64 (pw n)) ∧ w = w' := by
  go_enter Try.func37, Try.ntmps37
  go_wp2
  go_loopw [3, 4] (fun v3 v4 wr => ∃ k : Nat, k ≤ n ∧ v4 = .int .i64 k ∧ v3 = .int .i64 (pw k) ∧ w = wr) (fun _ i _ => n - (intOf i).toNat)
  case atStart => exact ⟨0, Nat.zero_le _, rfl, rfl, rfl⟩
  case round =>
    obtain ⟨k, hk, rfl, rfl, rfl⟩ := hrel
    by_cases hlt : k < n
    · have hm := two_mul_pw k (by omega)
      go_wp2
      go_roundw
      case rel => exact ⟨k + 1, by omega, by go_num, by first | rfl | rw [hm], trivial⟩
      case measure => simp [intOf]; omega
    · obtain rfl : k = n := by omega
      go_wp2
      go_ret
      exact ⟨rfl, rfl⟩
theorem has_div (s k : Nat) : (s : Int).tdiv (pw k) = ((s / 2 ^ k : Nat) : Int) := by
  unfold pw
  exact (Int.ofNat_tdiv _ _).symm
theorem has_bit (s k : Nat) : ((((s / 2 ^ k : Nat) : Int) % 2) == 1) = bitAt s k := by
  unfold bitAt
  rw [show ((s / 2 ^ k : Nat) : Int) % 2 = ((s / 2 ^ k % 2 : Nat) : Int) from rfl]
  by_cases h : s / 2 ^ k % 2 = 1
  · rw [h]; rfl
  · have h0 : s / 2 ^ k % 2 = 0 := by omega
    rw [h0]; rfl
theorem has_any (s k : Nat) (w : World) (hk : k ≤ 60) (hs : s ≤ 1000000) :
    Calls Try.prog 47 #[.int .i64 (s : Nat), .int .i64 (k : Nat)] w fun e w' => e = .returned (.bool (bitAt s k)) ∧ w = w' := by
  have h1 := has_div s k
  have h2 := has_bit s k
  have h3 := pw_pos k
  have h4 : pw k ≠ 0 := by omega
  have hle := Nat.div_le_self s (2 ^ k)
  obtain ⟨d, hd⟩ : ∃ d : Nat, d = s / 2 ^ k := ⟨_, rfl⟩
  rw [← hd] at h1 h2 hle
  clear hd
  have h5 : IntKind.i64.wrap (d : Int) = (d : Int) := IntWalk.i64_in _ (by omega)
  obtain ⟨q, hq⟩ : ∃ q : Int, q = (d : Int) := ⟨_, rfl⟩
  have h6 : (0 : Int) ≤ q ∧ q ≤ 1000000 := by omega
  rw [← hq] at h1 h2 h5
  clear hq
  go_enter Try.func47, Try.ntmps47
  go_wp2_with (go_at_call 37; refine (power_any _ _ hk).mono ?_; rintro e w' ⟨rfl, rfl⟩)
  go_ret
  exact ⟨rfl, rfl⟩
end Go.Proofs.Ytckagcbjcpfjpaa
