/- TopRing, plain: what a bench of two marks finds of a row; the errors are within what it finds, if its tank is right. -/
import Derived.Test.YtlofopnjjeeehaaDoorBnM
namespace Go.Proofs.YtlofopnjjeeehaaDoor
open Go.RowKit
/-- the bench that TopRing draws -/
def ringB (thought o h : Int) : Bn.Bnch := ⟨false, o, ⟨0, 0⟩, ⟨0, h⟩, 2, fun i => if i = 0 then ⟨0, 1⟩ else ⟨1, 1 + thought⟩⟩
def ringC : Bn.Ctch := ⟨⟨0, 0⟩, ⟨1, 1⟩, ⟨0, 0⟩⟩
section
variable {T o h : Int}
theorem ringB_valid (hT : 1 ≤ T ∧ T ≤ 9000000) (ho : 0 ≤ o ∧ o ≤ 19) (hh : 0 ≤ h ∧ h ≤ 19) : (ringB T o h).valid = true := by
  have e : Bn.allB 2 (Bn.markOk false (ringB T o h).t) = true := by
    rw [Bn.allB_iff]
    intro i hi
    obtain rfl | rfl : i = 0 ∨ i = 1 := by omega
    · simp [Bn.markOk, Bn.withinB, ringB]
    · simp [Bn.markOk, Bn.withinB, ringB]
      omega
  show (Bn.allB 2 (Bn.markOk false (ringB T o h).t) && (Bn.withinB 2 2 12 && Bn.withinB o 0 10000000 && Bn.spanB ⟨0, 0⟩ 0 10000 && Bn.spanB ⟨0, h⟩ 0 10000000)) = true
  rw [e]
  simp [Bn.withinB, Bn.spanB]
  omega
theorem ringB_right : (ringB T o h).rightB ringC = true := by
  show (Bn.spanB ⟨0, 0⟩ 0 1 && Bn.spanB ⟨1, 1⟩ 0 1) = true
  decide
theorem ring_at1 : Bn.tabAt 2 (ringB T o h).t 1 = ⟨1 * (1 - 0) + (1 + T - 1) * (1 - 0), 1 - 0⟩ := rfl
theorem ring_at0 : Bn.tabAt 2 (ringB T o h).t 0 = ⟨1 * (1 - 0) + (1 + T - 1) * (0 - 0), 1 - 0⟩ := rfl
theorem ring_water (hT : 100 ≤ T ∧ T ≤ 9000000) (ho : 0 ≤ o ∧ o ≤ 19) (hh : 0 ≤ h ∧ h ≤ 19) : (ringB T o h).waterR ringC = (⟨T - 2 * o, T + 2 * o + h⟩, 0) := by
  have e1 : ((ringB T o h).waterF ringC).1 = ⟨T - 2 * o, 1⟩ := by
    show (Bn.tabAt 2 (ringB T o h).t 1).minus (Bn.tabAt 2 (ringB T o h).t 0) (2 * o) = _
    rw [ring_at1, ring_at0]
    unfold Bn.Frac.minus
    simp
    omega
  have e2 : ((ringB T o h).waterF ringC).2.1 = ⟨T + 2 * o, 1⟩ := by
    show (Bn.tabAt 2 (ringB T o h).t 1).minus (Bn.tabAt 2 (ringB T o h).t 0) (-2 * o) = _
    rw [ring_at1, ring_at0]
    unfold Bn.Frac.minus
    simp
    omega
  have e3 : ((ringB T o h).waterF ringC).2.2 = true := rfl
  rw [Bn.waterR_yes (ringB_valid (by omega) ho hh) ringB_right (by rw [e1, e3]; simp; omega), e1, e2]
  show ((⟨(T - 2 * o) / 1 + 0, -((-(T + 2 * o)) / 1) + h⟩ : Bn.Spn), (0 : Int)) = _
  rw [Int.ediv_one, Int.ediv_one, Int.add_zero, Int.neg_neg]
theorem ring_test (hT : 100 ≤ T ∧ T ≤ 9000000) (ho : 0 ≤ o ∧ o ≤ 19) (hh : 0 ≤ h ∧ h ≤ 19) {m : Nat} (hm : m ≤ 3) {r : Nat → Bn.Spn} (hr : ∀ i, i < m → 0 ≤ (r i).lo ∧ (r i).lo ≤ (r i).hi ∧ (r i).hi ≤ 1073741824) : (ringB T o h).testR ringC m r = (⟨T - 2 * o, T + 2 * o + h⟩, 0) := by
  unfold Bn.Bnch.testR
  rw [ring_water hT ho hh, if_pos rfl, if_neg (by omega), if_neg]
  intro hb
  obtain ⟨i, hi, h9⟩ := Bn.anyB_iff.1 hb
  have := hr i hi
  simp [Bn.badS, Bn.spanB] at h9
  omega
end
/-- what is found of a row -/
theorem ring_err {k E T o h d1 d2 : Int} (hk : 1 ≤ k ∧ k ≤ 50) (hE : -400 ≤ E ∧ E ≤ 400) (hT : 9616 * k ≤ T ∧ T ≤ 10384 * k) (ho : 0 ≤ o ∧ o ≤ 19) (hh : 0 ≤ h ∧ h ≤ 19) (h1 : 0 ≤ d1 ∧ d1 ≤ 29) (h2 : 0 ≤ d2 ∧ d2 ≤ 29) :
    (-100000 ≤ (Bn.errR ⟨T - 2 * o, T + 2 * o + h⟩ ⟨k * (10000 + E) - d1, k * (10000 + E) + d2⟩).lo ∧ (Bn.errR ⟨T - 2 * o, T + 2 * o + h⟩ ⟨k * (10000 + E) - d1, k * (10000 + E) + d2⟩).lo ≤ (Bn.errR ⟨T - 2 * o, T + 2 * o + h⟩ ⟨k * (10000 + E) - d1, k * (10000 + E) + d2⟩).hi ∧ (Bn.errR ⟨T - 2 * o, T + 2 * o + h⟩ ⟨k * (10000 + E) - d1, k * (10000 + E) + d2⟩).hi ≤ 100000) ∧ (T = 10000 * k → (Bn.errR ⟨T - 2 * o, T + 2 * o + h⟩ ⟨k * (10000 + E) - d1, k * (10000 + E) + d2⟩).lo ≤ E ∧ E ≤ (Bn.errR ⟨T - 2 * o, T + 2 * o + h⟩ ⟨k * (10000 + E) - d1, k * (10000 + E) + d2⟩).hi) := by
  obtain ⟨n, hn⟩ : ∃ n, n = k * (10000 + E) := ⟨_, rfl⟩
  have b1 : k * 9600 ≤ n := by rw [hn]; exact Int.mul_le_mul_of_nonneg_left (by omega) (by omega)
  have b2 : n ≤ k * 10400 := by rw [hn]; exact Int.mul_le_mul_of_nonneg_left (by omega) (by omega)
  obtain ⟨H, hH⟩ : ∃ H, H = T + 2 * o + h := ⟨_, rfl⟩
  obtain ⟨L, hL⟩ : ∃ L, L = T - 2 * o := ⟨_, rfl⟩
  have hL0 : 0 < L := by omega
  have hLH : L ≤ H := by omega
  have hH0 : 0 < H := by omega
  rw [← hn, ← hH, ← hL]
  show (-100000 ≤ 10000 * (n - d1 - H) / H ∧ 10000 * (n - d1 - H) / H ≤ -((-(10000 * (n + d2 - L))) / L) ∧ -((-(10000 * (n + d2 - L))) / L) ≤ 100000) ∧ (T = 10000 * k → 10000 * (n - d1 - H) / H ≤ E ∧ E ≤ -((-(10000 * (n + d2 - L))) / L))
  refine ⟨⟨?_, ?_, ?_⟩, fun hT0 => ⟨?_, ?_⟩⟩
  · exact (Int.le_ediv_iff_mul_le hH0).2 (by omega)
  · obtain ⟨a, ha⟩ : ∃ a, a = 10000 * (n - d1 - H) / H := ⟨_, rfl⟩
    have h3 : a * H ≤ 10000 * (n - d1 - H) := by rw [ha]; exact Int.ediv_mul_le _ (by omega)
    rw [← ha]
    have h4 : (-(10000 * (n + d2 - L))) / L ≤ -a := by
      have h5 : a * L ≤ 10000 * (n + d2 - L) := by
        by_cases h6 : 0 ≤ a + 10000
        · have h7 : (a + 10000) * L ≤ (a + 10000) * H := Int.mul_le_mul_of_nonneg_left hLH h6
          rw [Int.add_mul, Int.add_mul] at h7
          omega
        · have h7 : (a + 10000) * L ≤ 0 := Int.mul_nonpos_of_nonpos_of_nonneg (by omega) (by omega)
          rw [Int.add_mul] at h7
          omega
      have h8 : -(10000 * (n + d2 - L)) < (-a + 1) * L := by rw [Int.add_mul, Int.neg_mul]; omega
      have := (Int.ediv_lt_iff_lt_mul hL0).2 h8
      omega
    omega
  · have h5 : -100000 ≤ (-(10000 * (n + d2 - L))) / L := (Int.le_ediv_iff_mul_le hL0).2 (by omega)
    omega
  · have h6 : k * (10000 + E) ≤ n := by omega
    have h7 : (10000 + E) * (10000 * k) ≤ (10000 + E) * H := Int.mul_le_mul_of_nonneg_left (by omega) (by omega)
    have h8 : 10000 * n = (10000 + E) * (10000 * k) := by rw [hn, Int.mul_comm k]; exact Int.mul_left_comm _ _ _
    have h9 : 10000 * (n - d1 - H) < (E + 1) * H := by
      rw [← h8, Int.add_mul] at h7
      rw [Int.add_mul]
      omega
    have := (Int.ediv_lt_iff_lt_mul hH0).2 h9
    omega
  · have h7 : (10000 + E) * L ≤ (10000 + E) * (10000 * k) := Int.mul_le_mul_of_nonneg_left (by omega) (by omega)
    have h8 : 10000 * n = (10000 + E) * (10000 * k) := by rw [hn, Int.mul_comm k]; exact Int.mul_left_comm _ _ _
    have h9 : -(10000 * (n + d2 - L)) < (-E + 1) * L := by
      rw [← h8, Int.add_mul] at h7
      rw [Int.add_mul, Int.neg_mul]
      omega
    have := (Int.ediv_lt_iff_lt_mul hL0).2 h9
    omega
end Go.Proofs.YtlofopnjjeeehaaDoor
