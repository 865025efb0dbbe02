/- What the greatest flow is, and what true flows of a set come to; no program in sight. -/
import Derived.Test.YtckagcbjcpfjpaaP9
namespace Go.Proofs.Ytckagcbjcpfjpaa
open Go.RowKit
theorem sumN_le {n : Nat} {f g : Nat → Int} (h : ∀ k, k < n → f k ≤ g k) : sumN n f ≤ sumN n g := by
  induction n with
  | zero => exact Int.le_refl _
  | succ n ih =>
    have h1 := ih (fun k hk => h k (by omega))
    have h2 := h n (by omega)
    simp only [sumN]; omega
theorem flo_fhi {h : House} (hv : h.valid = true) (s : Nat) : h.flo s ≤ h.fhi s :=
  sumN_le fun k hk => by
    have := valid_tap hv k hk
    split <;> omega
/-- what the first sets come to -/
theorem peakOf_is {h : House} (hv : h.valid = true) (l : List Nat) : (∀ s, s ∈ l → h.flo s ≤ (h.peakOf l).1 ∧ h.fhi s ≤ (h.peakOf l).2.1) ∧ (h.peakOf l).2.1 = h.fhi (h.peakOf l).2.2 ∧ (h.peakOf l).1 ≤ (h.peakOf l).2.1 ∧ ((h.peakOf l).2.2 = 0 ∨ (h.peakOf l).2.2 ∈ l) := by
  suffices H : ∀ r : List Nat, (∀ s, s ∈ r.reverse → h.flo s ≤ (h.peakOf r.reverse).1 ∧ h.fhi s ≤ (h.peakOf r.reverse).2.1) ∧ (h.peakOf r.reverse).2.1 = h.fhi (h.peakOf r.reverse).2.2 ∧ (h.peakOf r.reverse).1 ≤ (h.peakOf r.reverse).2.1 ∧ ((h.peakOf r.reverse).2.2 = 0 ∨ (h.peakOf r.reverse).2.2 ∈ r.reverse) by
    have := H l.reverse
    rwa [List.reverse_reverse] at this
  intro r
  induction r with
  | nil => exact ⟨fun s hs => by simp at hs, (fhi_zero h).symm, Int.le_refl _, .inl rfl⟩
  | cons x r ih =>
    rw [List.reverse_cons, peakOf_snoc]
    obtain ⟨⟨A, B, C⟩, hq⟩ : ∃ q, q = h.peakOf r.reverse := ⟨_, rfl⟩
    rw [← hq] at ih ⊢
    obtain ⟨i1, i2, i3, i4⟩ := ih
    dsimp only at i1 i2 i3 i4
    have hf := flo_fhi hv x
    simp only [House.peakStep]
    refine ⟨fun s hs => ?_, ?_, ?_, ?_⟩
    · rcases List.mem_append.1 hs with hs | hs
      · have := i1 s hs; omega
      · rw [List.mem_singleton.1 hs]; omega
    · split
      · omega
      · rw [← i2]; omega
    · omega
    · split
      · right; simp
      · rcases i4 with i4 | i4
        · left; exact i4
        · right; exact List.mem_append_left _ i4
theorem mem_opens {h : House} {n s : Nat} : s ∈ h.opens n ↔ s < n ∧ h.ok s = true := by simp [House.opens]
theorem peak_is {h : House} (hv : h.valid = true) : (∀ s, s < 2 ^ h.nt → h.ok s = true → h.flo s ≤ h.peak.1 ∧ h.fhi s ≤ h.peak.2.1) ∧ h.peak.2.1 = h.fhi h.peak.2.2 ∧ h.peak.1 ≤ h.peak.2.1 ∧ h.peak.2.2 < 2 ^ h.nt ∧ h.ok h.peak.2.2 = true := by
  obtain ⟨h1, h2, h3, h4⟩ := peakOf_is hv (h.opens (2 ^ h.nt))
  refine ⟨fun s hs ho => h1 s (mem_opens.2 ⟨hs, ho⟩), h2, h3, ?_⟩
  show (h.peakOf (h.opens (2 ^ h.nt))).2.2 < 2 ^ h.nt ∧ _
  rcases h4 with h4 | h4
  · exact ⟨by rw [h4]; exact Nat.pow_pos (by omega), by show h.ok (h.peakOf (h.opens (2 ^ h.nt))).2.2 = true; rw [h4]; exact ok_zero hv⟩
  · exact mem_opens.1 h4
/-- what the taps of a set take, by remainders, m of them -/
def House.trueN (h : House) (s : Nat) (q : Nat → Nat) (m : Nat) : Int := sumN m fun k => if bitAt s k then (h.t k).lo + (q k : Int) % ((h.t k).hi - (h.t k).lo + 1) else 0
theorem true_bd {h : House} (hv : h.valid = true) (s : Nat) (q : Nat → Nat) (m : Nat) (hm : m ≤ h.nt) : 0 ≤ h.trueN s q m ∧ h.trueN s q m ≤ h.fhiN s m := by
  constructor
  · have : ∀ m, m ≤ h.nt → 0 ≤ h.trueN s q m := fun m => by
      induction m with
      | zero => exact fun _ => Int.le_refl _
      | succ m ih =>
        intro hm
        have h1 := ih (by omega)
        have h2 := valid_tap hv m (by omega)
        have h3 := Int.emod_nonneg (q m : Int) (show (h.t m).hi - (h.t m).lo + 1 ≠ 0 by omega)
        simp only [House.trueN, sumN] at h1 ⊢
        split <;> omega
    exact this m hm
  · refine sumN_le fun k hk => ?_
    have h2 := valid_tap hv k (by omega)
    have h3 := Int.emod_lt_of_pos (q k : Int) (show 0 < (h.t k).hi - (h.t k).lo + 1 by omega)
    split <;> omega
theorem true_yes (h : House) {s m : Nat} {q : Nat → Nat} (hb : bitAt s m = true) : h.trueN s q (m + 1) = h.trueN s q m + ((h.t m).lo + (q m : Int) % ((h.t m).hi - (h.t m).lo + 1)) := by simp [House.trueN, sumN, hb]
theorem true_no (h : House) {s m : Nat} {q : Nat → Nat} (hb : bitAt s m = false) : h.trueN s q (m + 1) = h.trueN s q m := by simp [House.trueN, sumN, hb]
/-- a size that starves no set is enough for what the taps of one truly take -/
theorem full_true {h : House} {m : Meter} (hm : m.fair) (hf : h.fullB m = true) {s : Nat} (hs : s < 2 ^ h.nt) (ho : h.ok s = true) (h0 : s ≠ 0) {x : Int} (hx : 0 ≤ x) (hx2 : x ≤ h.fhi s) :
    x ≤ m.full ∧ m.loss * x * x ≤ (h.head - h.need s) * m.full * m.full := by
  have h1 := full_no hf s hs ho
  rw [starves_eq (by omega)] at h1
  simp only [Bool.or_eq_false_iff, House.tooMuch, House.pressB, decide_eq_false_iff_not] at h1
  obtain ⟨h2, h3⟩ := h1
  refine ⟨by omega, ?_⟩
  have k1 : m.loss * x ≤ m.loss * h.fhi s := Int.mul_le_mul_of_nonneg_left hx2 hm.2.2.1
  have k2 : 0 ≤ m.loss * x := Int.mul_nonneg hm.2.2.1 hx
  have k3 : m.loss * x * x ≤ m.loss * h.fhi s * h.fhi s := Int.mul_le_mul k1 hx2 hx (by omega)
  omega
end Go.Proofs.Ytckagcbjcpfjpaa
