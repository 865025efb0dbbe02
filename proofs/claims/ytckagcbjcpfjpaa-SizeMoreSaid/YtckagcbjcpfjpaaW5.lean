/- with and allowed return what a tap more draws, and whether the rules allow a set. -/
import Derived.Test.YtckagcbjcpfjpaaW4
import Derived.Test.YtckagcbjcpfjpaaB1
import Derived.Laws.BitsAllLaws
import Derived.Laws.BitsLemmas
namespace Go.Proofs.Ytckagcbjcpfjpaa
open Go.RowKit
set_option maxHeartbeats 400000 in
theorem with_any (lo hi need a b c : Int) (w : World) (g1 : 0 ≤ lo ∧ lo ≤ 10000000) (g2 : 0 ≤ hi ∧ hi ≤ 10000000) (g3 : 0 ≤ a ∧ a ≤ 10000000) (g4 : 0 ≤ b ∧ b ≤ 10000000) :
    Calls Try.prog 55 #[.agg #[.int .i64 lo, .int .i64 hi, .int .i64 need], .agg #[.int .i64 a, .int .i64 b, .int .i64 c]] w fun e w' => e = .returned (.agg #[.int .i64 (lo + a), .int .i64 (hi + b), .int .i64 (max need c)]) ∧ Below w.heap.size w w' := by
  go_enter Try.func55, Try.ntmps55
  go_wp2
  · refine bodyPost_ret (v := .agg #[.int .i64 (lo + a), .int .i64 (hi + b), .int .i64 c]) (by simp [results, Try.results55, go_sem]) rfl ⟨by rw [Int.max_eq_right (by omega)], (by repeat' (first | exact Below.refl _ _ | assumption | apply below_drewN | apply Below.drew | (refine Below.alloc ?_ ?_ _) | (refine Below.setCell ?_ ?_ _) | (simp; done) | (simp; omega) | omega))⟩
  · refine bodyPost_ret (v := .agg #[.int .i64 (lo + a), .int .i64 (hi + b), .int .i64 need]) (by simp [results, Try.results55, go_sem]) rfl ⟨by rw [Int.max_eq_left (by omega)], (by repeat' (first | exact Below.refl _ _ | assumption | apply below_drewN | apply Below.drew | (refine Below.alloc ?_ ?_ _) | (refine Below.setCell ?_ ?_ _) | (simp; done) | (simp; omega) | omega))⟩
theorem ofInt_i64 (a : Nat) (ha : a < 9223372036854775808) : (BitVec.ofInt 64 (a : Int)).toNat = a := by
  rw [BitVec.ofInt_natCast, BitVec.toNat_ofNat]; exact Nat.mod_eq_of_lt (by omega)
theorem i64_and_nat (a b : Nat) (ha : a < 9223372036854775808) (hb : b < 9223372036854775808) : bits .and .i64 (a : Int) (b : Int) = ((a &&& b : Nat) : Int) := by
  have hx : a &&& b < 2 ^ 63 := Nat.and_lt_two_pow _ (by omega)
  show IntKind.i64.wrap ((BitVec.ofInt 64 (a : Int) &&& BitVec.ofInt 64 (b : Int)).toNat : Int) = _
  rw [BitVec.toNat_and, ofInt_i64 a ha, ofInt_i64 b hb, IntKind.wrap_i64]
  omega
theorem size_q (x : Nat) (w : World) (hx : x < 1024) :
    Calls Try.prog 63 #[.int .i64 x] w fun e w' => e = .returned (.int .i64 (pop x : Nat)) ∧ w' = w := (size_any x w hx).mono fun _ _ h => ⟨h.1, h.2.symm⟩
/-- a set is allowed by all rules (program's way) -/
def allowedB (s nr : Nat) (r : Nat → Nat × Int) : Bool := !anyB nr (fun i => decide ((pop (s &&& (r i).1) : Int) > (r i).2))
set_option maxHeartbeats 400000 in
theorem allowed_any (s : Nat) (oa : Option Addr) (n cap : Nat) (r : Nat → Rule) (g : Nat → Nat) (w : World) (hs : s < 1024) (hn : n ≤ 1000000) (hT : RulesAt w oa n r) (hg : ∀ i, i < n → (r i).taps = g i ∧ g i < 1024) :
    Calls Try.prog 56 #[.int .i64 s, .slice oa n cap] w fun e w' => e = .returned (.bool (allowedB s n (fun i => (g i, (r i).most)))) ∧ Below w.heap.size w w' := by
  have HT := Lib.hid hT
  have HG := Lib.hid hg
  clear hT hg
  go_enter Try.func56, Try.ntmps56
  go_wp2
  go_loopw [7, 10] (fun v7 v10 wr => ∃ k : Nat, k ≤ n ∧ v10 = .int .i64 k ∧ Below w.heap.size w wr ∧ ∀ i, i < k → decide ((pop (s &&& g i) : Int) > (r i).most) = false) (fun _ i _ => n - (intOf i).toNat)
  case atStart => exact ⟨0, Nat.zero_le _, rfl, Below.refl _ _, fun i hi => by omega⟩
  case round =>
    obtain ⟨k, hk, rfl, hb, hno⟩ := hrel
    have hsz := hb.size
    have HN := Lib.hid hno
    clear hno
    by_cases hlt : k < n
    · obtain ⟨b, off, rfl, hlt0, h0, h1⟩ := (HT.out.mono hb) k hlt
      obtain ⟨hg1, hg2⟩ := HG.out k hlt
      rw [hg1] at h0
      clear hg1
      have hand := i64_and_nat s (g k) (by omega) (by omega)
      have hsm : s &&& g k < 1024 := Nat.lt_of_le_of_lt Nat.and_le_left hs
      by_cases hbad : (r k).most < (pop (s &&& g k) : Nat)
      · have HB := Lib.hid hbad
        go_wp2
        go_quiet ((go_at_call 63; exact Calls.quiet_of_same (size_q _ _ hsm)))
        go_wp2
        go_ret
        exact ⟨ret_bool (by
          have : anyB n (fun i => decide ((pop (s &&& g i) : Int) > (r i).most)) = true := anyB_iff.2 ⟨k, hlt, by simpa using HB.out⟩
          simp [allowedB, this]), (by repeat' (first | exact Below.refl _ _ | assumption | apply below_drewN | apply Below.drew | (refine Below.alloc ?_ ?_ _) | (refine Below.setCell ?_ ?_ _) | (simp; done) | (simp; omega) | omega))⟩
      · have HB := Lib.hid hbad
        go_wp2
        go_quiet ((go_at_call 63; exact Calls.quiet_of_same (size_q _ _ hsm)))
        go_wp2
        go_roundw
        case rel => exact ⟨k + 1, by omega, by go_num, (by repeat' (first | exact Below.refl _ _ | assumption | apply below_drewN | apply Below.drew | (refine Below.alloc ?_ ?_ _) | (refine Below.setCell ?_ ?_ _) | (simp; done) | (simp; omega) | omega)), fun i hi => by
          by_cases h : i = k
          · subst h; simpa using HB.out
          · exact HN.out i (by omega)⟩
        case measure => simp [intOf]; omega
    · go_wp2
      go_ret
      exact ⟨ret_bool (by
        have : anyB n (fun i => decide ((pop (s &&& g i) : Int) > (r i).most)) = false := by
          rw [Bool.eq_false_iff]
          intro h
          obtain ⟨i, hi, hp⟩ := anyB_iff.1 h
          rw [HN.out i (by omega)] at hp
          simp at hp
        simp only [allowedB, this]; rfl), hb⟩
end Go.Proofs.Ytckagcbjcpfjpaa
