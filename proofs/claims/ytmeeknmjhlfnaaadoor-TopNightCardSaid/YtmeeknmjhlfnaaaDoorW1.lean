/- What the smallest functions of chapter 10 return: within, isSpan, isEmpty, cut of the document, span, power, Has, and those of math/bits. -/
import Derived.Test.YtmeeknmjhlfnaaaDoorRows
import Derived.WalkSpells
import Derived.Lib.Hide
import Derived.Shelf.Spec.TrailingZeros
import Derived.Test.YtmeeknmjhlfnaaaDoorBase
namespace Go.Proofs.YtmeeknmjhlfnaaaDoor
open Go.RowKit
set_option maxHeartbeats 400000 in
theorem within_any (n low high : Int) (w : World) :
    Calls Tryd.prog 19 #[.int .i64 n, .int .i64 low, .int .i64 high] w fun e w' => e = .returned (.bool (withinB n low high)) ∧ w = w' := by
  go_enter Tryd.func19, Tryd.ntmps19
  go_wp2
  all_goals (go_ret; exact ⟨ret_bool (by simp [withinB]; omega), rfl⟩)
set_option maxHeartbeats 400000 in
theorem in_any (n low high : Int) (w : World) :
    Calls Tryd.prog 11 #[.int .i64 n, .int .i64 low, .int .i64 high] w fun e w' => e = .returned (.bool (withinB n low high)) ∧ w = w' := by
  go_enter Tryd.func11, Tryd.ntmps11
  go_wp2
  all_goals (go_ret; exact ⟨ret_bool (by simp [withinB]; omega), rfl⟩)
/-- a span of litres -/
def litB (s : Spn) : Bool := spanB s 0 1073741824
set_option maxHeartbeats 400000 in
theorem isSpan_any (s : Spn) (w : World) :
    Calls Tryd.prog 35 #[s.val] w fun e w' => e = .returned (.bool (litB s)) ∧ Below w.heap.size w w' := by
  go_enter Tryd.func35, Tryd.ntmps35
  go_wp2
  all_goals (go_ret; exact ⟨ret_bool (by rw [Bool.eq_iff_iff]; simp [litB, spanB]; omega), (by repeat' (first | exact Below.refl _ _ | assumption | apply below_drewN | apply Below.drew | (refine Below.alloc ?_ ?_ _) | (refine Below.setCell ?_ ?_ _) | (simp; done) | (simp; omega) | omega))⟩)
set_option maxHeartbeats 400000 in
theorem refSpan_any (s : Spn) (low high : Int) (w : World) :
    Calls Tryd.prog 12 #[s.val, .int .i64 low, .int .i64 high] w fun e w' => e = .returned (.bool (spanB s low high)) ∧ Below w.heap.size w w' := by
  go_enter Tryd.func12, Tryd.ntmps12
  go_wp2
  all_goals (go_ret; exact ⟨ret_bool (by rw [Bool.eq_iff_iff]; simp [spanB]; omega), (by repeat' (first | exact Below.refl _ _ | assumption | apply below_drewN | apply Below.drew | (refine Below.alloc ?_ ?_ _) | (refine Below.setCell ?_ ?_ _) | (simp; done) | (simp; omega) | omega))⟩)
set_option maxHeartbeats 400000 in
theorem isEmpty_any (s : Spn) (w : World) :
    Calls Tryd.prog 42 #[s.val] w fun e w' => e = .returned (.bool (decide (s.hi < s.lo))) ∧ Below w.heap.size w w' := by
  go_enter Tryd.func42, Tryd.ntmps42
  go_wp2
  go_ret
  exact ⟨rfl, (by repeat' (first | exact Below.refl _ _ | assumption | apply below_drewN | apply Below.drew | (refine Below.alloc ?_ ?_ _) | (refine Below.setCell ?_ ?_ _) | (simp; done) | (simp; omega) | omega))⟩
/-- what two spans have in common -/
def cutS (a b : Spn) : Spn := ⟨max a.lo b.lo, min a.hi b.hi⟩
theorem pow_le {k n : Nat} (h : k ≤ n) (hn : n ≤ 61) : (2 ^ k : Nat) ≤ 2305843009213693952 := by
  have := Nat.pow_le_pow_right (show 0 < 2 by omega) (Nat.le_trans h hn)
  simpa using this
set_option maxHeartbeats 400000 in
theorem power_any (n : Nat) (w : World) (hn : n ≤ 62) :
    Calls Tryd.prog 13 #[.int .i64 n] w fun e w' => e = .returned (.int .i64 (2 ^ n : Nat)) ∧ w' = w := by
  go_enter Tryd.func13, Tryd.ntmps13
  go_wp2
  go_loopw [3, 4] (fun v3 v4 wr => ∃ k : Nat, k ≤ n ∧ v3 = .int .i64 (2 ^ k : Nat) ∧ v4 = .int .i64 k ∧ wr = w) (fun _ i _ => n - (intOf i).toNat)
  case atStart => exact ⟨0, Nat.zero_le _, rfl, rfl, rfl⟩
  case round =>
    obtain ⟨k, hk, rfl, rfl, rfl⟩ := hrel
    by_cases hlt : k < n
    · have hp := pow_le (k := k) (n := n - 1) (by omega) (by omega)
      have e : (2 ^ (k + 1) : Nat) = 2 * 2 ^ k := by rw [Nat.pow_succ, Nat.mul_comm]
      have E := Lib.hid e
      clear e
      obtain ⟨p, hp9⟩ : ∃ p : Nat, p = 2 ^ k := ⟨_, rfl⟩
      rw [← hp9] at hp ⊢
      have HP := Lib.hid hp9
      clear hp9
      go_wp2
      go_roundw
      case rel => exact ⟨k + 1, by omega, by rw [E.out, ← HP.out]; go_num, by go_num, by first | rfl | trivial⟩
      case measure => simp [intOf]; omega
    · obtain rfl : k = n := by omega
      go_wp2
      go_ret
      exact ⟨rfl, rfl⟩
/-- is a street in a set -/
def hasB (k i : Nat) : Bool := decide (k / 2 ^ i % 2 = 1)
set_option maxHeartbeats 400000 in
theorem has_any (k i : Nat) (w : World) (hk : k ≤ 4611686018427387904) (hi : i ≤ 62) :
    Calls Tryd.prog 8 #[.int .i64 k, .int .i64 i] w fun e w' => e = .returned (.bool (hasB k i)) ∧ w' = w := by
  go_enter Tryd.func8, Tryd.ntmps8
  go_wp2_with fail
  refine (power_any i _ hi).mono ?_
  rintro e w' ⟨rfl, rfl⟩
  obtain ⟨p, hp⟩ : ∃ p : Nat, p = 2 ^ i := ⟨_, rfl⟩
  have hp0 : 0 < p := by rw [hp]; exact Nat.two_pow_pos i
  have hb : hasB k i = decide (k / p % 2 = 1) := by rw [hp]; rfl
  rw [← hp]
  have HB := Lib.hid hb
  clear hp hb
  have z : ((p : Int) == 0) = false := by simp; omega
  have e1 : Int.tdiv (k : Int) (p : Int) = ((k / p : Nat) : Int) := by rw [Int.tdiv_eq_ediv_of_nonneg (by omega)]; rfl
  have e2 : (k : Int) / (p : Int) = ((k / p : Nat) : Int) := rfl
  have b := Nat.div_le_self k p
  generalize k / p = q at *
  go_wp2
  go_ret
  exact ⟨ret_bool (by rw [HB.out, Bool.eq_iff_iff]; simp; omega), rfl⟩
theorem tz64_core (x k idx : Nat) (w : World) (hx0 : ((x : Int) == 0) = false)
    (key : IntKind.u64.wrap (bits BinOp.and IntKind.u64 (x : Int) (IntKind.u64.wrap (-(x : Int))) * 285870213051353865) / 288230376151711744 = (idx : Int))
    (hi : idx < 64) (hk : k < 64) (hcell : w.cell? ⟨1, idx, none⟩ = some (.int .u8 k)) :
    Calls Tryd.prog 46 #[.int .u64 x] w fun e w' => e = .returned (.int .i64 k) ∧ w' = w := by
  go_enter Tryd.func46, Tryd.ntmps46
  go_wp2_with (simp only [key])
  go_ret
  exact ⟨rfl, rfl⟩
/-- math/bits.TrailingZeros, of a set that is not empty -/
theorem tz64_any (x : Nat) (hx0 : x ≠ 0) (hx : x < 18446744073709551616) (w : World) (hT : TabAt 1 Lib.deBruijn64tab w) :
    Calls Tryd.prog 46 #[.int .u64 x] w fun e w' => e = .returned (.int .i64 (Lib.ctz 64 x)) ∧ w' = w := by
  obtain ⟨hlow, hk⟩ := Lib.lowest_bit 64 x hx0 hx
  obtain ⟨hi, htab⟩ := Lib.deBruijn64_at _ hk
  have hcell := hT _ hi
  rw [htab] at hcell
  exact tz64_core x _ _ w (by simp; omega) (tz64_key x _ hx hx0 hlow) hi hk hcell
theorem tz_any (x : Nat) (hx0 : x ≠ 0) (hx : x < 18446744073709551616) (w : World) (hT : TabAt 1 Lib.deBruijn64tab w) :
    Calls Tryd.prog 39 #[.int .u64 x] w fun e w' => e = .returned (.int .i64 (Lib.ctz 64 x)) ∧ w' = w := by
  have HT := Lib.hid hT
  clear hT
  go_enter Tryd.func39, Tryd.ntmps39
  go_wp2_with fail
  refine (tz64_any x hx0 hx _ HT.out).mono ?_
  rintro e w' ⟨rfl, rfl⟩
  go_wp2
  go_ret
  exact ⟨rfl, rfl⟩
end Go.Proofs.YtmeeknmjhlfnaaaDoor
