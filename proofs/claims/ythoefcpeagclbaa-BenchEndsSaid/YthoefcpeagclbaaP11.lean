/- What is so of gaps: they are spans, no wider than the errors allow, turned with their meters, and the order of the row makes no difference; plain, no program in sight. -/
import Derived.Test.YthoefcpeagclbaaP10
namespace Go.Proofs.Ythoefcpeagclbaa
theorem gap_turn (v : Spn) (r : Nat → Spn) (i k : Int) : gapOf v (gapLo r k i) (gapHi r k i) = ⟨-(gapOf v (gapLo r i k) (gapHi r i k)).hi, -(gapOf v (gapLo r i k) (gapHi r i k)).lo⟩ := by
  have e1 : gapLo r k i = -gapHi r i k := by unfold gapLo gapHi; omega
  have e2 : gapHi r k i = -gapLo r i k := by unfold gapLo gapHi; omega
  rw [e1, e2]
  unfold gapOf rnd
  simp only [if_pos, Spn.mk.injEq, Int.neg_neg]
  rw [if_neg (by decide), if_neg (by decide)]
  refine ⟨?_, ?_⟩
  · rw [Int.mul_neg, Int.neg_neg]
  · rw [Int.mul_neg, Int.neg_neg]
theorem gap_span {v : Spn} {low high : Int} (h0 : 1 ≤ v.lo) (h1 : v.lo ≤ v.hi) (h : low ≤ high) : (gapOf v low high).lo ≤ (gapOf v low high).hi := by
  have u1 : 0 < underV v low := by unfold underV; split <;> omega
  have u2 : 0 < underV v (-high) := by unfold underV; split <;> omega
  have hle : Frac.le ⟨10000 * low, underV v low⟩ ⟨10000 * high, underV v (-high)⟩ := by
    simp only [Frac.le, Int.mul_assoc]
    refine Int.mul_le_mul_of_nonneg_left ?_ (by decide)
    unfold underV
    by_cases a : low < 0
    · rw [if_pos a]
      by_cases c : -high < 0
      · rw [if_pos c]
        exact Int.mul_le_mul_of_nonneg_right h (by omega)
      · rw [if_neg c]
        have m1 : low * v.hi ≤ low * v.lo := Int.mul_le_mul_of_nonpos_left (by omega) h1
        exact Int.le_trans m1 (Int.mul_le_mul_of_nonneg_right h (by omega))
    · rw [if_neg a]
      by_cases c : -high < 0
      · rw [if_pos c]
        exact Int.mul_le_mul h h1 (by omega) (by omega)
      · obtain rfl : low = 0 := by omega
        obtain rfl : high = 0 := by omega
        simp
  have d := Frac.down_mono (a := ⟨10000 * low, underV v low⟩) (b := ⟨10000 * high, underV v (-high)⟩) u1 u2 hle
  have e := (Frac.down_up (a := ⟨10000 * high, underV v (-high)⟩) u2).1
  exact Int.le_trans d e
/-- a gap's lower end against the errors of both meters -/
theorem gap_low {v s t : Spn} (h0 : 1 ≤ v.lo) (h1 : v.lo ≤ v.hi) (hs : 0 ≤ s.lo) (ht : 0 ≤ t.hi) : (errR v s).lo - (errR v t).hi ≤ rnd 0 (10000 * (s.lo - t.hi)) (underV v (s.lo - t.hi)) := by
  have u1 : 0 < underV v (s.lo - t.hi) := by unfold underV; split <;> omega
  refine (Int.le_ediv_iff_mul_le u1).2 ?_
  have a := Frac.down_le (a := ⟨10000 * (s.lo - v.hi), v.hi⟩) (show 0 < v.hi by omega)
  have c := Frac.le_up (a := ⟨10000 * (t.hi - v.lo), v.lo⟩) (show 0 < v.lo by omega)
  have ea : (errR v s).lo = Frac.down ⟨10000 * (s.lo - v.hi), v.hi⟩ := rfl
  have ec : (errR v t).hi = Frac.up ⟨10000 * (t.hi - v.lo), v.lo⟩ := rfl
  rw [ea, ec]
  generalize Frac.down ⟨10000 * (s.lo - v.hi), v.hi⟩ = A at *
  generalize Frac.up ⟨10000 * (t.hi - v.lo), v.lo⟩ = C at *
  dsimp only at a c
  have a2 : (A + 10000) * v.hi ≤ 10000 * s.lo := by rw [Int.add_mul]; omega
  have c2 : 10000 * t.hi ≤ (C + 10000) * v.lo := by rw [Int.add_mul]; omega
  have e : A - C = (A + 10000) - (C + 10000) := by omega
  rw [e]
  generalize A + 10000 = A' at *
  generalize C + 10000 = C' at *
  clear a c ea ec e
  rw [Int.sub_mul]
  unfold underV
  by_cases n : s.lo - t.hi < 0
  · rw [if_pos n]
    have a3 : A' * v.lo ≤ 10000 * s.lo := by
      rcases Int.le_total 0 A' with p | p
      · exact Int.le_trans (Int.mul_le_mul_of_nonneg_left h1 p) a2
      · have := Int.mul_nonpos_of_nonpos_of_nonneg p (show 0 ≤ v.lo by omega); omega
    omega
  · rw [if_neg n]
    have c3 : 10000 * t.hi ≤ C' * v.hi := by
      rcases Int.le_total 0 C' with p | p
      · exact Int.le_trans c2 (Int.mul_le_mul_of_nonneg_left h1 p)
      · have q : C' * v.lo ≤ 0 := Int.mul_nonpos_of_nonpos_of_nonneg p (by omega)
        have r := Int.mul_le_mul_of_nonpos_left p h1
        by_cases z : C' = 0
        · subst z; simp at c2 ⊢; omega
        · exfalso
          have : C' * v.lo < 0 := Int.mul_neg_of_neg_of_pos (by omega) (by omega)
          omega
    omega
/-- the row, turned -/
def turnI (m t z : Nat) : Nat := (z + t) % m
theorem turn_back {m t i : Nat} (hi : i < m) : turnI m t ((i + (m - t % m)) % m) = i := by
  unfold turnI
  have h := Nat.mod_lt t (show 0 < m by omega)
  rw [Nat.add_mod, Nat.mod_mod, ← Nat.add_mod]
  have e : i + (m - t % m) + t = i + m + (t - t % m) := by have := Nat.mod_le t m; omega
  rw [e]
  have e2 : t - t % m = m * (t / m) := by have := Nat.div_add_mod t m; omega
  rw [e2, Nat.add_mul_mod_self_left, Nat.add_mod_right, Nat.mod_eq_of_lt hi]
theorem testR_turn {b : Bnch} {x : Ctch} {m : Nat} {r : Nat → Spn} {t : Nat} (h : (b.testR x m r).2 = 0) (hm : 0 < m) : b.testR x m (fun z => r (turnI m t z)) = b.testR x m r := by
  rcases testR_form b x m r with ⟨-, h1⟩ | ⟨-, h1, h2, h3, h4⟩
  · omega
  · have hb : ∀ {f : Nat → Spn}, (∀ i, i < m → 0 ≤ (f i).lo ∧ (f i).lo ≤ (f i).hi ∧ (f i).hi ≤ 1073741824) → b.testR x m f = ((b.waterR x).1, 0) := fun {f} hf => by
      unfold Bnch.testR
      rw [if_pos h1, if_neg (by omega), if_neg]
      intro ha
      obtain ⟨i, hi, h9⟩ := anyB_iff.1 ha
      have := hf i hi
      simp [badS, spanB] at h9
      omega
    rw [hb h4]
    exact hb (f := fun z => r (turnI m t z)) fun i _ => h4 _ (Nat.mod_lt _ hm)
end Go.Proofs.Ythoefcpeagclbaa
