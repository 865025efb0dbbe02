/- The valve that is shut next is the document's; plain, no program in sight. -/
import Derived.Test.YtpognhnmkjpipaaDoorP7
namespace Go.Proofs.YtpognhnmkjpipaaDoor
theorem hasB_xor (a b s : Nat) : hasB (a ^^^ b) s = (hasB a s != hasB b s) := by rw [hasB_bit, hasB_bit, hasB_bit, Nat.testBit_xor]
theorem ones_sub (c s : Nat) : ∀ k, onesN c k = onesN (c &&& s) k + onesN (c ^^^ (c &&& s)) k
  | 0 => rfl
  | k + 1 => by
    unfold onesN
    rw [ones_sub c s k, hasB_xor, hasB_and]
    cases hasB c k <;> cases hasB s k <;> simp <;> omega
theorem ins_ones (c s : Nat) : ∀ k, insN c s k = onesN (c &&& s) k
  | 0 => rfl
  | k + 1 => by
    unfold insN onesN
    rw [ins_ones c s k, hasB_and]
    cases hasB c k <;> cases hasB s k <;> rfl
theorem ones_top {x n : Nat} (hx : x < 2 ^ n) : ∀ {k}, n ≤ k → onesN x k = onesN x n
  | 0, h => by
    obtain rfl : n = 0 := by omega
    rfl
  | k + 1, h => by
    by_cases hk : n = k + 1
    · subst hk; rfl
    · have hb : hasB x k = false := by
        rw [hasB_bit]
        exact Nat.testBit_lt_two_pow (Nat.lt_of_lt_of_le hx (Nat.pow_le_pow_right (by omega) (by omega)))
      show onesN x k + (if hasB x k then 1 else 0) = onesN x n
      rw [hb, ones_top hx (k := k) (by omega)]; rfl
theorem parts_eq {c s n : Nat} (hc : c < 2 ^ n) (hn : n ≤ 10) : partsI c s n = (partsN c s : Int) := by
  have h1 : c &&& s < 2 ^ n := Nat.lt_of_le_of_lt Nat.and_le_left hc
  have e1 : insN c s n = sizeN (c &&& s) := by rw [ins_ones]; unfold sizeN; exact (ones_top h1 hn).symm
  have e2 : sizeN c = sizeN (c &&& s) + sizeN (c ^^^ (c &&& s)) := ones_sub c s 10
  unfold partsI partsN
  rw [e1, e2]
  omega
theorem parts_le {c s : Nat} : partsN c s ≤ sizeN c := by
  have e2 : sizeN c = sizeN (c &&& s) + sizeN (c ^^^ (c &&& s)) := ones_sub c s 10
  unfold partsN
  omega
theorem best_eq {c n : Nat} (hc : c < 2 ^ n) (hn : n ≤ 10) (f : Nat → Nat) : ∀ k, docBest c n f (k + 1) = ((bestV c f (k + 1)).1, ((bestV c f (k + 1)).2 : Int))
  | 0 => by
    have h1 := parts_le (c := c) (s := f 0)
    have h2 := sizeN_le c
    have e1 : docBest c n f 1 = if partsI c (f 0) n < (sizeN c : Int) + 1 then (0, partsI c (f 0) n) else docBest c n f 0 := rfl
    have e2 : bestV c f 1 = if partsN c (f 0) < 11 then (0, partsN c (f 0)) else (0, 11) := rfl
    rw [e1, e2, parts_eq hc hn, if_pos (by omega), if_pos (by omega)]
  | k + 1 => by
    have ih := best_eq hc hn f k
    have e1 : docBest c n f (k + 1 + 1) = if partsI c (f (k + 1)) n < (docBest c n f (k + 1)).2 then (k + 1, partsI c (f (k + 1)) n) else docBest c n f (k + 1) := rfl
    have e2 : bestV c f (k + 1 + 1) = if partsN c (f (k + 1)) < (bestV c f (k + 1)).2 then (k + 1, partsN c (f (k + 1))) else bestV c f (k + 1) := rfl
    rw [e1, e2, ih, parts_eq hc hn]
    by_cases h : partsN c (f (k + 1)) < (bestV c f (k + 1)).2
    · rw [if_pos h, if_pos (by dsimp only; omega)]
    · rw [if_neg h, if_neg (by dsimp only; omega)]
theorem docCan_verd {t : Tst} (hv : t.valid = true) (hf : fitsB t = true) : docCan t = (verd t).can := by
  rw [← can_eq]
  unfold Tst.canR
  rw [err_eq, derr_zero hv hf, if_pos rfl]
theorem nextErr_eq (t : Tst) (m : Nat) (v : Nat → Int) : t.nextErr m v = docNextErr t m v := by
  unfold Tst.nextErr docNextErr
  cases hv : t.valid
  · rfl
  · rw [fits_eq (Tst.ok hv)]
    cases hf : fitsB t
    · simp
    · rw [docCan_verd hv hf]
theorem next_eq (t : Tst) (m : Nat) (v : Nat → Int) : docNext t m v = ((t.nextR m v).1, ((t.nextR m v).2 : Int)) := by
  unfold docNext Tst.nextR
  rw [nextErr_eq]
  by_cases h0 : docNextErr t m v = 0
  · rw [if_pos h0, if_pos h0]
    unfold docNextErr at h0
    cases hv : t.valid
    · rw [hv] at h0; cases h0
    · rw [hv] at h0
      cases hf : fitsB t
      · rw [hf] at h0
        split at h0
        · split at h0
          · split at h0 <;> cases h0
          · cases h0
        · cases h0
      · rw [hf] at h0
        have hm : m ≠ 0 := fun hm => by
          subst hm
          split at h0
          · split at h0
            · split at h0
              · cases h0
              · simp at h0
            · cases h0
          · cases h0
        obtain ⟨k, rfl⟩ : ∃ k, m = k + 1 := ⟨m - 1, by omega⟩
        rw [docCan_verd hv hf]
        exact best_eq (bits_lt (t := t) (2 ^ t.n) (Nat.le_refl _)).1 (Tst.ok hv).n2 _ _
  · rw [if_neg h0, if_neg h0]; rfl
end Go.Proofs.YtpognhnmkjpipaaDoor
