/- A table's value at a number: at, and what it calls; the ends of a table; the table is valid, the number within it. -/
import Derived.Test.YthoefcpeagclbaaW2
namespace Go.Proofs.Ythoefcpeagclbaa
open Go.RowKit
set_option maxHeartbeats 400000 in
theorem at1_any (t : Mark) (x : Int) (xb : Nat) (w : World) (hblk : xb < w.heap.size) (hc : w.cell? ⟨xb, 0, none⟩ = some (.int .i64 x)) :
    Calls Try.prog 86 #[t.val, .pointer (some ⟨xb, 0, none⟩)] w fun e w' => e = .returned (.bool (decide (x ≤ t.at_))) ∧ Below w.heap.size w w' := by
  go_enter Try.func86, Try.ntmps86
  go_wp2
  all_goals (go_ret; exact ⟨ret_bool (by simp), (by repeat' (first | exact Below.refl _ _ | assumption | apply below_drewN | apply Below.drew | (refine Below.alloc ?_ ?_ _) | (refine Below.setCell ?_ ?_ _) | (simp; done) | (simp; omega) | omega))⟩)
set_option maxHeartbeats 400000 in
theorem indexMarks_at (oa : Option Addr) (n cap : Nat) (t : Nat → Mark) (x : Int) (xb m : Nat) (w : World) (hn : n ≤ 1000000) (hT : MarksAt w oa n t) (hblk : xb < w.heap.size) (hc : w.cell? ⟨xb, 0, none⟩ = some (.int .i64 x))
    (hm : m < n) (hno : ∀ j, j < m → ¬ x ≤ (t j).at_) (hyes : x ≤ (t m).at_) :
    Calls Try.prog 85 #[.slice oa n cap, .func (.func 86) #[] #[.pointer (some ⟨xb, 0, none⟩)]] w fun e w' => e = .returned (.int .i64 (m : Nat)) ∧ Below w.heap.size w w' := by
  have HT := Lib.hid hT
  have HN := Lib.hid hno
  have HY := Lib.hid hyes
  clear hT hno hyes
  go_enter Try.func85, Try.ntmps85
  go_wp2
  go_loopw [5, 8] (fun v5 v8 wr => ∃ k : Nat, k ≤ m ∧ v8 = .int .i64 k ∧ Below w.heap.size w wr) (fun _ i _ => n - (intOf i).toNat)
  case atStart => exact ⟨0, Nat.zero_le _, rfl, Below.refl _ _⟩
  case round =>
    obtain ⟨k, hk, rfl, hb⟩ := hrel
    have hlt : k < n := by omega
    obtain ⟨b, off, rfl, hlt0, h0, h1⟩ := (HT.out.mono hb) k hlt
    have hblk1 : xb < wr.heap.size := Nat.lt_of_lt_of_le hblk hb.size
    have hc1 := (hb.cell (p := ⟨xb, 0, none⟩) hblk).trans hc
    by_cases hk2 : k = m
    · subst hk2
      have hd : decide (x ≤ (t k).at_) = true := by simpa using HY.out
      go_wp2_with (go_at_call 86; refine (at1_any _ x xb _ hblk1 hc1).mono ?_; rintro e w1 ⟨rfl, hb1⟩)
      go_ret
      exact ⟨rfl, hb.trans (hb1.mono hb.size)⟩
    · have hd : decide (x ≤ (t k).at_) = false := by simpa using HN.out k (by omega)
      go_wp2_with (go_at_call 86; refine (at1_any _ x xb _ hblk1 hc1).mono ?_; rintro e w1 ⟨rfl, hb1⟩)
      go_roundw
      case rel => exact ⟨k + 1, by omega, by go_num, hb.trans (hb1.mono hb.size)⟩
      case measure => simp [intOf]; omega
/-- the bounds of a valid table -/
structure Tab (n : Nat) (t : Nat → Mark) : Prop where
  two : 2 ≤ n
  few : n ≤ 12
  inc : ∀ i, i + 1 < n → (t i).at_ < (t (i + 1)).at_
  at0 : ∀ i, i < n → 0 ≤ (t i).at_
  at1 : ∀ i, i < n → (t i).at_ ≤ 10000
  v0 : ∀ i, i < n → 1 ≤ (t i).value
  v1 : ∀ i, i < n → (t i).value ≤ 10000000
/-- the mark behind a number -/
def tabI (n : Nat) (t : Nat → Mark) (x : Int) : Nat := firstFrom (fun i => decide (x ≤ (t i).at_)) (n - 1) 1
def atF (t : Nat → Mark) (i : Nat) (x : Int) : Frac := ⟨(t (i - 1)).value * ((t i).at_ - (t (i - 1)).at_) + ((t i).value - (t (i - 1)).value) * (x - (t (i - 1)).at_), (t i).at_ - (t (i - 1)).at_⟩
def tabAt (n : Nat) (t : Nat → Mark) (x : Int) : Frac := atF t (tabI n t x) x
theorem tabI_spec {n : Nat} {t : Nat → Mark} {x : Int} (hn : 2 ≤ n) (hx : x ≤ (t (n - 1)).at_) :
    1 ≤ tabI n t x ∧ tabI n t x < n ∧ (∀ j, 1 ≤ j → j < tabI n t x → ¬ x ≤ (t j).at_) ∧ x ≤ (t (tabI n t x)).at_ := by
  obtain ⟨h0, h1, h2, h3⟩ := firstFrom_spec (p := fun i => decide (x ≤ (t i).at_)) (k := n - 1) (i := 1)
  have hlt : tabI n t x < n := by
    by_cases h : tabI n t x < n
    · exact h
    · have := h2 (n - 1) (by omega) (by unfold tabI at h; omega)
      simp at this; omega
  exact ⟨h0, hlt, fun j hj hm => by simpa using h2 j hj hm, by have := h3 (by unfold tabI at hlt; omega); simp only [decide_eq_true_eq] at this; exact this⟩
end Go.Proofs.Ythoefcpeagclbaa
