/- What the smallest functions of chapter 08 return: within, isHead; no conditions. -/
import Derived.Test.YtckagcbjcpfjpaaRows
import Derived.WalkKit
import Derived.WalkSpells
import Derived.WalkLawsBesides
import Derived.Lib.Hide
import Derived.Test.YtckagcbjcpfjpaaData
namespace Go.Proofs.Ytckagcbjcpfjpaa
open Go.RowKit

set_option maxHeartbeats 400000 in
theorem within_any (n low high : Int) (w : World) :
    Calls Try.prog 50 #[.int .i64 n, .int .i64 low, .int .i64 high] w fun e w' => e = .returned (.bool (withinB n low high)) ∧ w = w' := by
  go_enter Try.func50, Try.ntmps50
  go_wp2
  all_goals (go_ret; exact ⟨ret_bool (by simp [withinB]; omega), rfl⟩)

theorem isHead_any (n : Int) (w : World) :
    Calls Try.prog 43 #[.int .i64 n] w fun e w' => e = .returned (.bool (withinB n 0 10000)) ∧ w = w' := by
  go_enter Try.func43, Try.ntmps43
  go_wp2_with (go_at_call 50; refine (within_any _ _ _ _).mono ?_; rintro e w' ⟨rfl, rfl⟩)
  go_ret
  exact ⟨rfl, rfl⟩

def tapBad (lo hi need : Int) : Bool := decide (lo < 0 ∨ lo > hi ∨ hi > 100000) || !(withinB need 0 10000)
set_option maxHeartbeats 400000 in
theorem isHouse1_any (lo hi need : Int) (w : World) :
    Calls Try.prog 48 #[.agg #[.int .i64 lo, .int .i64 hi, .int .i64 need]] w fun e w' => e = .returned (.bool (tapBad lo hi need)) ∧ Below w.heap.size w w' := by
  go_enter Try.func48, Try.ntmps48
  go_wp2_with (go_at_call 43; refine (isHead_any _ _).mono ?_; rintro e w' ⟨rfl, rfl⟩)
  all_goals (go_ret; refine ⟨ret_bool ?_, (Below.refl _ _).alloc (Nat.le_refl _) _⟩; simp [tapBad, Bool.or_assoc, *])


set_option maxHeartbeats 400000 in
theorem indexTaps_any (oa : Option Addr) (n cap : Nat) (t : Nat → Tap) (w : World) (hn : n ≤ 1000000) (hT : TapsAt w oa n t) :
    Calls Try.prog 59 #[.slice oa n cap, .func (.func 48) #[] #[]] w (IdxPost w.heap.size w n fun i => tapBad (t i).lo (t i).hi (t i).need) := by
  have HT := Lib.hid hT
  clear hT
  go_enter Try.func59, Try.ntmps59
  go_wp2
  go_loopw [5, 8] (fun v5 v8 wr => ∃ k : Nat, k ≤ n ∧ v8 = .int .i64 k ∧ Below w.heap.size w wr ∧ ∀ i, i < k → tapBad (t i).lo (t i).hi (t i).need = false) (fun _ i _ => n - (intOf i).toNat)
  case atStart => exact ⟨0, Nat.zero_le _, rfl, Below.refl _ _, fun i hi => by omega⟩
  case round =>
    obtain ⟨k, hk, rfl, hb, hno⟩ := hrel
    have HN := Lib.hid hno
    clear hno
    by_cases hlt : k < n
    · obtain ⟨b, off, rfl, hlt0, h0, h1, h2⟩ := (HT.out.mono hb) k hlt
      by_cases hbad : tapBad (t k).lo (t k).hi (t k).need = true
      · have HB := Lib.hid hbad
        go_wp2_with (go_at_call 48; refine (isHouse1_any _ _ _ _).mono ?_; rintro e w1 ⟨rfl, hb1⟩)
        go_ret
        exact ⟨k, rfl, ⟨fun _ => anyB_iff.2 ⟨k, hlt, HB.out⟩, fun _ => by omega⟩, hb.trans (hb1.mono hb.size)⟩
      · replace hbad : tapBad (t k).lo (t k).hi (t k).need = false := by simpa using hbad
        have HB := Lib.hid hbad
        go_wp2_with (go_at_call 48; refine (isHouse1_any _ _ _ _).mono ?_; rintro e w1 ⟨rfl, hb1⟩)
        go_roundw
        case rel => exact ⟨k + 1, by omega, by go_num, hb.trans (hb1.mono hb.size), fun i hi => by
          by_cases h : i = k
          · subst h; exact HB.out
          · exact HN.out i (by omega)⟩
        case measure => simp [intOf]; omega
    · go_wp2
      go_ret
      exact ⟨-1, rfl, ⟨fun h => by omega, fun h => by
        obtain ⟨i, hi, hp⟩ := anyB_iff.1 h
        rw [HN.out i (by omega)] at hp
        simp at hp⟩, hb⟩
end Go.Proofs.Ytckagcbjcpfjpaa
