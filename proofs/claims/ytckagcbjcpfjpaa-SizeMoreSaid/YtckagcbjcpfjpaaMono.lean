/- What Least returns is unique; facts on Full. -/
import Derived.Test.YtckagcbjcpfjpaaLeast
namespace Go.Proofs.Ytckagcbjcpfjpaa
open Go.RowKit
theorem fullB_iff (h : House) (m : Meter) : h.fullB m = true ↔ ∀ s, s ∈ h.opens (2 ^ h.nt) → h.starves m s = false := by
  unfold House.fullB House.starved
  cases hf : (h.opens (2 ^ h.nt)).find? (h.starves m) with
  | none =>
    simp only [wantB]
    refine ⟨fun _ s hs => ?_, fun _ => rfl⟩
    have := List.find?_eq_none.1 hf s hs
    simpa using this
  | some s =>
    have h1 := List.find?_some hf
    have h2 := List.mem_of_find?_eq_some hf
    refine ⟨fun hw => ?_, fun hall => ?_⟩
    · simp only [wantB, Bool.and_eq_true, beq_iff_eq] at hw
      rw [hw.1] at h1
      simp [House.starves] at h1
    · rw [hall s h2] at h1
      cases h1
/-- a greater Full starves no set that a lesser one does not -/
theorem starves_mono (h : House) (loss : Int) (hl : 0 ≤ loss) (i s : Nat) (hs : h.starves (sizeOf loss (i + 1)) s = true) : h.starves (sizeOf loss i) s = true := by
  simp only [House.starves, Bool.and_eq_true, Bool.or_eq_true, decide_eq_true_eq] at hs ⊢
  refine ⟨hs.1, ?_⟩
  rcases hs.2 with h1 | h1
  · left; omega
  · by_cases hq : h.fhi s > (i : Int) + 1
    · left; exact hq
    · right
      obtain ⟨q, hq'⟩ : ∃ q, q = h.fhi s := ⟨_, rfl⟩
      obtain ⟨d, hd⟩ : ∃ d, d = h.head - h.need s := ⟨_, rfl⟩
      rw [← hq', ← hd] at h1 ⊢
      have e1 : (((i + 1 : Nat) : Int) + 1) = (i : Int) + 2 := by omega
      rw [e1] at h1
      obtain ⟨F, hF⟩ : ∃ F : Int, F = (i : Int) + 1 := ⟨_, rfl⟩
      have e2 : (i : Int) + 2 = F + 1 := by omega
      rw [e2] at h1
      rw [← hF]
      have hF1 : 1 ≤ F := by omega
      have hLq : 0 ≤ loss * q * q := by
        rw [Int.mul_assoc]
        exact Int.mul_nonneg hl (by
          rcases Int.le_total 0 q with h | h
          · exact Int.mul_nonneg h h
          · exact Int.mul_nonneg_of_nonpos_of_nonpos h h)
      by_cases hd0 : 0 ≤ d
      · have k1 : d * F ≤ d * (F + 1) := Int.mul_le_mul_of_nonneg_left (by omega) hd0
        have k0 : 0 ≤ d * (F + 1) := Int.mul_nonneg hd0 (by omega)
        have k2 : d * F * F ≤ d * (F + 1) * F := Int.mul_le_mul_of_nonneg_right k1 (by omega)
        have k3 : d * (F + 1) * F ≤ d * (F + 1) * (F + 1) := Int.mul_le_mul_of_nonneg_left (by omega) k0
        omega
      · have k1 : d * F ≤ -1 * F := Int.mul_le_mul_of_nonneg_right (by omega) (by omega)
        have k2 : d * F * F ≤ -1 * F := by
          have a1 : d * F ≤ -1 := by omega
          exact Int.mul_le_mul_of_nonneg_right a1 (by omega)
        omega
theorem fullB_mono (h : House) (loss : Int) (hl : 0 ≤ loss) {i j : Nat} (hij : i ≤ j) (hf : h.fullB (sizeOf loss i) = true) : h.fullB (sizeOf loss j) = true := by
  obtain ⟨k, rfl⟩ : ∃ k, j = i + k := ⟨j - i, by omega⟩
  clear hij
  induction k with
  | zero => exact hf
  | succ k ih =>
    rw [fullB_iff] at ih ⊢
    intro s hs
    have h1 := ih s hs
    cases h2 : h.starves (sizeOf loss (i + (k + 1))) s with
    | false => rfl
    | true => rw [starves_mono h loss hl (i + k) s h2] at h1; cases h1
/-- Least is one number -/
theorem least_eq (h : House) (loss : Int) (hl : 0 ≤ loss) {r q : Nat} (h1 : h.fullB (sizeOf loss (r - 1)) = true) (h2 : 1 < r → h.fullB (sizeOf loss (r - 2)) = false) (hr : 1 ≤ r) (hq : 1 ≤ q) (k1 : h.fullB (sizeOf loss (q - 1)) = true) (k2 : 1 < q → h.fullB (sizeOf loss (q - 2)) = false) : r = q := by
  rcases Nat.lt_trichotomy r q with hlt | he | hgt
  · have := fullB_mono h loss hl (i := r - 1) (j := q - 2) (by omega) h1
    rw [k2 (by omega)] at this; cases this
  · exact he
  · have := fullB_mono h loss hl (i := q - 1) (j := r - 2) (by omega) k1
    rw [h2 (by omega)] at this; cases this
end Go.Proofs.Ytckagcbjcpfjpaa
