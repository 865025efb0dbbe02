/- Travel, plain: which set comes before another one; what the search for a clash keeps. -/
import Derived.Test.YtldodmfmibeoiaaDoorV13
namespace Go.Proofs.YtldodmfmibeoiaaDoor
open Go.RowKit
theorem ctz_bits {x : Nat} (h0 : x ≠ 0) (hx : x < 18446744073709551616) : x.testBit (Lib.ctz 64 x) = true ∧ ∀ j, j < Lib.ctz 64 x → x.testBit j = false := by
  obtain ⟨m, hm⟩ := ctz_dvd h0 hx
  generalize Lib.ctz 64 x = c at hm ⊢
  have h2 : 0 < 2 ^ c := Nat.two_pow_pos c
  have e1 : x = 2 ^ (c + 1) * m + 2 ^ c := by rw [hm, Nat.pow_succ, Nat.mul_add, Nat.mul_one, Nat.mul_assoc]
  have l1 : 2 ^ c < 2 ^ (c + 1) := by rw [Nat.pow_succ]; omega
  have b1 : ∀ k, x.testBit k = if k < c + 1 then (2 ^ c).testBit k else m.testBit (k - (c + 1)) := fun k => by rw [e1]; exact Nat.testBit_two_pow_mul_add m l1 k
  refine ⟨?_, fun j hj => ?_⟩
  · rw [b1, if_pos (by omega), Nat.testBit_two_pow]; simp
  · rw [b1, if_pos (by omega), Nat.testBit_two_pow]; simp; omega
theorem before_iff {a b : Nat} (ha : a < 16384) (hb : b < 16384) : beforeB a b = true ↔ ∃ i, a.testBit i = true ∧ b.testBit i = false ∧ ∀ j, j < i → a.testBit j = b.testBit j := by
  unfold beforeB
  by_cases h : a = b
  · subst h
    simp
  · have hd0 : a ^^^ b ≠ 0 := fun h9 => h (xor_zero h9)
    have hd : a ^^^ b < 2 ^ 14 := Nat.xor_lt_two_pow (by omega) (by omega)
    obtain ⟨h1, h2⟩ := ctz_bits hd0 (by omega)
    generalize Lib.ctz 64 (a ^^^ b) = c at h1 h2 ⊢
    rw [Nat.testBit_xor] at h1
    have h3 : ∀ j, j < c → a.testBit j = b.testBit j := fun j hj => by
      have := h2 j hj
      rw [Nat.testBit_xor] at this
      cases h8 : a.testBit j <;> cases h9 : b.testBit j <;> rw [h8, h9] at this <;> first | rfl | cases this
    simp only [h, ne_eq, not_false_eq_true, decide_true, Bool.true_and]
    constructor
    · intro h4
      refine ⟨c, h4, ?_, h3⟩
      rw [h4] at h1
      cases h9 : b.testBit c
      · rfl
      · rw [h9] at h1; cases h1
    · rintro ⟨i, h4, h5, h6⟩
      by_cases hic : i = c
      · subst hic; exact h4
      · by_cases hlt : i < c
        · have := h3 i hlt
          rw [h4, h5] at this
          cases this
        · have := h6 c (by omega)
          rw [this] at h1
          cases h9 : b.testBit c <;> rw [h9] at h1 <;> cases h1
theorem before_irrefl (a : Nat) : beforeB a a = false := by simp [beforeB]
theorem before_trans {a b c : Nat} (ha : a < 16384) (hb : b < 16384) (hc : c < 16384) (h1 : beforeB a b = true) (h2 : beforeB b c = true) : beforeB a c = true := by
  rw [before_iff ha hb] at h1
  rw [before_iff hb hc] at h2
  rw [before_iff ha hc]
  obtain ⟨i, p1, p2, p3⟩ := h1
  obtain ⟨j, q1, q2, q3⟩ := h2
  by_cases hij : i < j
  · exact ⟨i, p1, by rw [← q3 i hij]; exact p2, fun k hk => by rw [p3 k hk]; exact q3 k (by omega)⟩
  · have hne : i ≠ j := fun e => by rw [e] at p2; rw [p2] at q1; cases q1
    exact ⟨j, by rw [p3 j (by omega)]; exact q1, q2, fun k hk => by rw [p3 k (by omega)]; exact q3 k hk⟩
/-- what the search keeps behind the first s sets -/
def ClI (r : Rnd) (off : Int) (s best size : Nat) : Prop :=
  (size = r.n + 1 ∧ best = 0 ∧ ∀ x, x < s → okT (r.tab off x) = true) ∨ (best < s ∧ size = sizeN best ∧ okT (r.tab off best) = false ∧ ∀ x, x < s → okT (r.tab off x) = false → size < sizeN x ∨ (sizeN x = size ∧ beforeB x best = false))
theorem ClI.zero (r : Rnd) (off : Int) : ClI r off 0 0 (r.n + 1) := .inl ⟨rfl, rfl, fun x hx => by omega⟩
theorem ClI.skip {r : Rnd} {off : Int} {s best size : Nat} (h : ClI r off s best size) (hz : sizeN s ≤ r.n) (h2 : size < sizeN s ∨ (sizeN s = size ∧ beforeB s best = false)) : ClI r off (s + 1) best size := by
  rcases h with ⟨h3, h4, h5⟩ | ⟨h3, h4, h5, h6⟩
  · omega
  · refine .inr ⟨by omega, h4, h5, fun x hx hb => ?_⟩
    by_cases h9 : x = s
    · subst h9; exact h2
    · exact h6 x (by omega) hb
theorem ClI.fine {r : Rnd} {off : Int} {s best size : Nat} (h : ClI r off s best size) (ho : okT (r.tab off s) = true) : ClI r off (s + 1) best size := by
  rcases h with ⟨h3, h4, h5⟩ | ⟨h3, h4, h5, h6⟩
  · refine .inl ⟨h3, h4, fun x hx => ?_⟩
    by_cases h9 : x = s
    · subst h9; exact ho
    · exact h5 x (by omega)
  · refine .inr ⟨by omega, h4, h5, fun x hx hb => ?_⟩
    by_cases h9 : x = s
    · subst h9; rw [ho] at hb; cases hb
    · exact h6 x (by omega) hb
theorem ClI.found {r : Rnd} {off : Int} {s best size : Nat} (h : ClI r off s best size) (hs : s < 16384) (ho : okT (r.tab off s) = false) (h2 : sizeN s < size ∨ (sizeN s = size ∧ beforeB s best = true)) : ClI r off (s + 1) s (sizeN s) := by
  refine .inr ⟨by omega, rfl, ho, fun x hx hb => ?_⟩
  by_cases h9 : x = s
  · subst h9; exact .inr ⟨rfl, before_irrefl x⟩
  · rcases h with ⟨h3, h4, h5⟩ | ⟨h3, h4, h5, h6⟩
    · have := h5 x (by omega)
      rw [this] at hb
      cases hb
    · rcases h6 x (by omega) hb with h7 | ⟨h7, h8⟩
      · left
        rcases h2 with h2 | ⟨h2, -⟩ <;> omega
      · rcases h2 with h2 | ⟨h2, h2'⟩
        · left; omega
        · refine .inr ⟨by omega, ?_⟩
          cases hq : beforeB x s
          · rfl
          · have := before_trans (by omega) hs (by omega) hq h2'
            rw [this] at h8
            cases h8
/-- the set that a clash is -/
def ClB (r : Rnd) (off : Int) (best : Nat) : Prop := best < 2 ^ r.n ∧ okT (r.tab off best) = false ∧ ∀ x, x < 2 ^ r.n → okT (r.tab off x) = false → sizeN best < sizeN x ∨ (sizeN x = sizeN best ∧ beforeB x best = false)
end Go.Proofs.YtldodmfmibeoiaaDoor
