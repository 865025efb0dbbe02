/- Zone, for the laws: what Own, Losses, Wrong say in each case. -/
import Derived.Test.YtipnaeijbbbdoaaP2
namespace Go.Proofs.Ytipnaeijbbbdoaa
open Go.RowKit
section
variable {n m : Nat} {z : Nat → Zon} {u : Nat → Nig} {w w' : World} {e : Ending}
theorem own_no (h : OwnP n z w e w') (hl : listB n z = false) : e = .returned (.tuple #[.slice none 0 0, .int .i64 1]) ∧ Below w.heap.size w w' := by
  obtain ⟨hb, ⟨-, h1⟩ | ⟨h1, -⟩⟩ := h
  · exact ⟨h1, hb⟩
  · rw [hl] at h1; cases h1
theorem own_yes (h : OwnP n z w e w') (hl : listB n z = true) : Below w.heap.size w w' ∧ ∃ oL cL, e = .returned (.tuple #[.slice oL n cL, .int .i64 0]) ∧ SpnsAt w' oL n (fun i => ownS (z i)) ∧ ∀ a, oL = some a → w.heap.size ≤ a.block := by
  obtain ⟨hb, ⟨h1, -⟩ | ⟨-, h1⟩⟩ := h
  · rw [hl] at h1; cases h1
  · exact ⟨hb, h1⟩
theorem loss_no (h : LossP n z w e w') (hl : listB n z = false) : e = .returned (.tuple #[.slice none 0 0, .int .i64 1]) ∧ Below w.heap.size w w' := by
  obtain ⟨hb, ⟨-, h1⟩ | ⟨h1, -⟩ | ⟨h1, -⟩⟩ := h
  · exact ⟨h1, hb⟩
  · rw [hl] at h1; cases h1
  · rw [hl] at h1; cases h1
theorem loss_all (h : LossP n z w e w') (hl : listB n z = true) (ha : AllR z n) : Below w.heap.size w w' ∧ ∃ oL cL, e = .returned (.tuple #[.slice oL n cL, .int .i64 0]) ∧ SpnsAt w' oL n (dnF z n) ∧ ∀ a, oL = some a → w.heap.size ≤ a.block := by
  obtain ⟨hb, ⟨h1, -⟩ | ⟨-, h1, -⟩ | ⟨-, -, h1⟩⟩ := h
  · rw [hl] at h1; cases h1
  · exact absurd ha h1
  · exact ⟨hb, h1⟩
theorem loss_none (h : LossP n z w e w') (hl : listB n z = true) (ha : ¬ AllR z n) : e = .returned (.tuple #[.slice none 0 0, .int .i64 6]) ∧ Below w.heap.size w w' := by
  obtain ⟨hb, ⟨h1, -⟩ | ⟨-, -, h1⟩ | ⟨-, h1, -⟩⟩ := h
  · rw [hl] at h1; cases h1
  · exact ⟨h1, hb⟩
  · exact absurd h1 ha
theorem wrong_no (h : WrongP n z w e w') (hl : listB n z = false) : e = .returned (.tuple #[.int .i64 0, .int .i64 1]) ∧ Below w.heap.size w w' := by
  obtain ⟨hb, ⟨-, h1⟩ | ⟨h1, -⟩ | ⟨h1, -⟩⟩ := h
  · exact ⟨h1, hb⟩
  · rw [hl] at h1; cases h1
  · rw [hl] at h1; cases h1
theorem wrong_all (h : WrongP n z w e w') (hl : listB n z = true) (ha : AllR z n) : e = .returned (.tuple #[.int .i64 0, .int .i64 4]) ∧ Below w.heap.size w w' := by
  obtain ⟨hb, ⟨h1, -⟩ | ⟨-, -, h1⟩ | ⟨-, k, hk, h1, -⟩⟩ := h
  · rw [hl] at h1; cases h1
  · exact ⟨h1, hb⟩
  · have := ha k hk
    rw [h1] at this; cases this
theorem wrong_none (h : WrongP n z w e w') (hl : listB n z = true) (ha : ¬ AllR z n) : Below w.heap.size w w' ∧ ∃ k : Nat, k < n ∧ e = .returned (.tuple #[.int .i64 k, .int .i64 0]) := by
  obtain ⟨hb, ⟨h1, -⟩ | ⟨-, h1, -⟩ | ⟨-, k, hk, -, -, h1⟩⟩ := h
  · rw [hl] at h1; cases h1
  · exact absurd h1 ha
  · exact ⟨hb, k, hk, h1⟩
end
theorem mul_in {x f B C : Int} (h1 : -B ≤ x) (h2 : x ≤ B) (h3 : 0 ≤ f) (h4 : f ≤ C) (hB : 0 ≤ B) : -(B * C) ≤ x * f ∧ x * f ≤ B * C := by
  have a1 := Int.mul_le_mul_of_nonneg_right h2 h3
  have a2 := Int.mul_le_mul_of_nonneg_right h1 h3
  have a3 := Int.mul_le_mul_of_nonneg_left h4 hB
  rw [Int.neg_mul] at a2
  omega
end Go.Proofs.Ytipnaeijbbbdoaa
