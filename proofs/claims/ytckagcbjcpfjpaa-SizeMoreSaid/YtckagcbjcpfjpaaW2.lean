/- What the tests of isHouse on one tap and on one rule return. -/
import Derived.Test.YtckagcbjcpfjpaaW1
import Derived.Deep.QuietTactic
import Derived.BigQuiet
namespace Go.Proofs.Ytckagcbjcpfjpaa
open Go.RowKit
theorem within_q (n low high : Int) (w : World) :
    Calls Try.prog 50 #[.int .i64 n, .int .i64 low, .int .i64 high] w fun e w' => e = .returned (.bool (withinB n low high)) ∧ w' = w :=
  (within_any n low high w).mono fun _ _ h => ⟨h.1, h.2.symm⟩
theorem wrap_pow (n : Nat) (hn : n ≤ 10) : IntKind.i64.wrap (IntKind.i64.wrap (2 ^ n) - 1) = 2 ^ n - 1 := by
  have : n = 0 ∨ n = 1 ∨ n = 2 ∨ n = 3 ∨ n = 4 ∨ n = 5 ∨ n = 6 ∨ n = 7 ∨ n = 8 ∨ n = 9 ∨ n = 10 := by omega
  rcases this with h | h | h | h | h | h | h | h | h | h | h <;> subst h <;> decide
def ruleBad (n : Nat) (taps most : Int) : Bool := !(withinB taps 0 (2 ^ n - 1)) || !(withinB most 0 10)

set_option maxHeartbeats 400000 in
theorem containsTaps_any (oa : Option Addr) (n cap : Nat) (t : Nat → Tap) (w : World) (hn : n ≤ 1000000) (hT : TapsAt w oa n t) :
    Calls Try.prog 51 #[.slice oa n cap, .func (.func 48) #[] #[]] w fun e w' => e = .returned (.bool (anyB n fun i => tapBad (t i).lo (t i).hi (t i).need)) ∧ Below w.heap.size w w' := by
  have HT := Lib.hid hT
  clear hT
  go_enter Try.func51, Try.ntmps51
  go_wp2_with fail
  refine (indexTaps_any oa n cap t _ hn HT.out).mono ?_
  rintro e w1 ⟨r, rfl, hr, hb⟩
  have HR := Lib.hid hr
  clear hr
  by_cases h0 : 0 ≤ r
  · go_wp2
    go_ret
    exact ⟨ret_bool (by rw [HR.out.1 h0]), hb⟩
  · go_wp2
    go_ret
    exact ⟨ret_bool (by
      have : ¬ anyB n (fun i => tapBad (t i).lo (t i).hi (t i).need) = true := fun h => by have := HR.out.2 h; omega
      simp only [Bool.not_eq_true] at this
      rw [this]; simp; omega), hb⟩

set_option maxHeartbeats 400000 in
theorem isHouse2_any (taps most : Int) (oa : Option Addr) (n cap hb : Nat) (w : World) (h1 : 1 ≤ n) (hn : n ≤ 10) (hblk : hb < w.heap.size) (hc : w.cell? ⟨hb, 2, none⟩ = some (.slice oa n cap)) :
    Calls Try.prog 49 #[.agg #[.int .i64 taps, .int .i64 most], .pointer (some ⟨hb, 0, none⟩)] w fun e w' => e = .returned (.bool (ruleBad n taps most)) ∧ Below w.heap.size w w' := by
  have e1 : IntKind.i64.wrap (IntKind.i64.wrap (2 ^ n) - 1) = 2 ^ n - 1 := wrap_pow n hn
  have HE := Lib.hid e1
  clear e1
  by_cases hA : withinB taps 0 (IntKind.i64.wrap (IntKind.i64.wrap (2 ^ n) - 1)) = true
  · have HA := Lib.hid hA
    go_enter Try.func49, Try.ntmps49
    go_wp2
    go_quiet ((go_at_call 50; exact Calls.quiet_of_same (within_q _ _ _ _)))
    go_wp2
    go_ret
    exact ⟨ret_bool (by have h1 := HA.out; rw [HE.out] at h1; simp [ruleBad, h1]), (by repeat' (first | exact Below.refl _ _ | assumption | apply below_drewN | apply Below.drew | (refine Below.alloc ?_ ?_ _) | (refine Below.setCell ?_ ?_ _) | (simp; done) | (simp; omega) | omega))⟩
  · replace hA : withinB taps 0 (IntKind.i64.wrap (IntKind.i64.wrap (2 ^ n) - 1)) = false := by simpa using hA
    have HA := Lib.hid hA
    go_enter Try.func49, Try.ntmps49
    go_wp2
    go_quiet ((go_at_call 50; exact Calls.quiet_of_same (within_q _ _ _ _)))
    go_wp2
    go_ret
    exact ⟨ret_bool (by have h1 := HA.out; rw [HE.out] at h1; simp [ruleBad, h1]), (by repeat' (first | exact Below.refl _ _ | assumption | apply below_drewN | apply Below.drew | (refine Below.alloc ?_ ?_ _) | (refine Below.setCell ?_ ?_ _) | (simp; done) | (simp; omega) | omega))⟩
end Go.Proofs.Ytckagcbjcpfjpaa
