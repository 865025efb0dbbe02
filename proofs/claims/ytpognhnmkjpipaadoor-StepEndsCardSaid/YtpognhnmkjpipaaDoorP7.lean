/- The program's answers are the document's; plain, no program in sight. -/
import Derived.Test.YtpognhnmkjpipaaDoorP6
namespace Go.Proofs.YtpognhnmkjpipaaDoor
theorem sound_fold (t : Tst) : ∀ k, (verdF t (gL t k)).sound = anyB k (fun x => (gR t x).isSome && decide (x = 0))
  | 0 => rfl
  | k + 1 => by
    rw [anyB_succ]
    cases hg : gR t k with
    | none => rw [gL_none hg, sound_fold t k]; simp
    | some p =>
      rw [gL_some hg, verdF_snoc]
      show ((verdF t (gL t k)).sound || decide (k = 0)) = _
      rw [sound_fold t k]; simp
theorem surely_fold (t : Tst) (s : Nat) : ∀ k, hasB (verdF t (gL t k)).surely s = (hasB (2 ^ t.n - 1) s && allB k (fun x => !(gR t x).isSome || hasB x s))
  | 0 => by
    show hasB (2 ^ t.n - 1) s = _
    simp [allB]
  | k + 1 => by
    rw [allB_succ]
    cases hg : gR t k with
    | none => rw [gL_none hg, surely_fold t s k]; simp
    | some p =>
      rw [gL_some hg, verdF_snoc]
      show hasB ((verdF t (gL t k)).surely &&& k) s = _
      rw [hasB_and, surely_fold t s k, Bool.and_assoc]; simp
theorem fit_iff {t : Tst} : t.fitB = true ↔ ∃ x, x < 2 ^ t.n ∧ (gR t x).isSome = true := by
  have key : ∀ k, (gL t k).isEmpty = false ↔ ∃ x, x < k ∧ (gR t x).isSome = true := fun k => by
    induction k with
    | zero => simp [gL]
    | succ k ih =>
      cases hg : gR t k with
      | none =>
        rw [gL_none hg, ih]
        constructor
        · rintro ⟨x, hx, h⟩; exact ⟨x, by omega, h⟩
        · rintro ⟨x, hx, h⟩
          by_cases hxk : x = k
          · subst hxk; rw [hg] at h; cases h
          · exact ⟨x, by omega, h⟩
      | some p =>
        rw [gL_some hg]
        constructor
        · intro _; exact ⟨k, by omega, by rw [hg]; rfl⟩
        · intro _; cases hl : gL t k <;> rfl
  unfold Tst.fitB
  rw [Bool.not_eq_true', key]
theorem zero_some {t : Tst} (hk : t.Ok) : (gR t 0).isSome = t.noneB := by
  rw [gR_nil hk]
  cases t.noneB <;> rfl
/-- a set that fits is empty, or some street can leak -/
theorem leak_some {t : Tst} (hk : t.Ok) {s : Nat} (hs : s < t.n) : (leakO t s).isSome = true ↔ ∃ x, x < 2 ^ t.n ∧ (gR t x).isSome = true ∧ hasB x s = true := by
  have h := foldO_hull none (cont t s) (2 ^ t.n)
  have e : leakO t s = foldO none (cont t s) (2 ^ t.n) := ((h.unique (leak_hull t s) (cont_iff hk hs))).symm
  rw [e]
  constructor
  · intro hs
    cases ho : foldO none (cont t s) (2 ^ t.n) with
    | none => rw [ho] at hs; cases hs
    | some b =>
      rw [ho] at h
      obtain ⟨a, ha | ⟨x, hx, hc⟩, -⟩ := (show IsHull _ b from h).lo
      · cases ha
      · refine ⟨x, hx, ?_⟩
        unfold cont at hc
        cases hg : gR t x with
        | none => rw [hg] at hc; cases hc
        | some p =>
          rw [hg] at hc
          simp only at hc
          cases hb : hasB x s
          · rw [hb] at hc; cases hc
          · exact ⟨rfl, rfl⟩
  · rintro ⟨x, hx, hg, hb⟩
    cases ho : foldO none (cont t s) (2 ^ t.n) with
    | some b => rfl
    | none =>
      rw [ho] at h
      cases hg2 : gR t x with
      | none => rw [hg2] at hg; cases hg
      | some p => exact absurd (.inr ⟨x, hx, by unfold cont; rw [hg2]; simp only; rw [hb]; rfl⟩) (h (spanAt x p s))
theorem fits_eq {t : Tst} (hk : t.Ok) : t.fitB = fitsB t := by
  have h10 := pow_ten hk.n2
  have hn := hk.n2
  rw [Bool.eq_iff_iff, fit_iff]
  unfold fitsB
  rw [Bool.or_eq_true, anyB_iff]
  constructor
  · rintro ⟨x, hx, h⟩
    cases hg : gR t x with
    | none => rw [hg] at h; cases h
    | some p =>
      rcases gR_few hk (by omega) hg with rfl | ⟨i, hi, rfl⟩ | ⟨i, j, hi, hj, hij, rfl⟩
      · right; rw [← zero_some hk, hg]; rfl
      · left
        have hin : i < t.n := pow_lt_of hx
        exact ⟨i, hin, (leak_some hk hin).2 ⟨_, hx, h, by rw [(one_st hi).2.2.2 i hi]; simp⟩⟩
      · left
        have hjn : j < t.n := pow_lt_of (Nat.lt_of_le_of_lt (Nat.le_add_left _ _) hx)
        exact ⟨j, hjn, (leak_some hk hjn).2 ⟨_, hx, h, by rw [(two_st hi hj hij).2.2.2 j hj]; simp⟩⟩
  · rintro (⟨s, hs, h⟩ | h)
    · obtain ⟨x, hx, hg, -⟩ := (leak_some hk hs).1 h
      exact ⟨x, hx, hg⟩
    · exact ⟨0, Nat.two_pow_pos _, by rw [zero_some hk]; exact h⟩
theorem err_eq (t : Tst) : t.err = docErr t := by
  unfold Tst.err docErr
  cases hv : t.valid
  · rfl
  · rw [fits_eq (Tst.ok hv)]
theorem bits_lt {t : Tst} (k : Nat) (hk : k ≤ 2 ^ t.n) : (verdF t (gL t k)).can < 2 ^ t.n ∧ (verdF t (gL t k)).surely < 2 ^ t.n := by
  induction k with
  | zero =>
    have := Nat.two_pow_pos t.n
    exact ⟨this, by show 2 ^ t.n - 1 < 2 ^ t.n; omega⟩
  | succ k ih =>
    have ih := ih (by omega)
    cases hg : gR t k with
    | none => rw [gL_none hg]; exact ih
    | some p =>
      rw [gL_some hg, verdF_snoc]
      exact ⟨Nat.or_lt_two_pow ih.1 (by dsimp only; omega), Nat.lt_of_le_of_lt Nat.and_le_left ih.2⟩
theorem sum_mod (c : Nat) : ∀ n, sumB (hasB c) n = c % 2 ^ n
  | 0 => by simp [sumB, Nat.mod_one]
  | n + 1 => by
    unfold sumB
    rw [sum_mod c n, Nat.pow_succ, Nat.mod_mul]
    unfold hasB
    have h := Nat.mod_two_eq_zero_or_one (c / 2 ^ n)
    rcases h with h | h <;> rw [h] <;> simp
theorem sum_congr {p q : Nat → Bool} : ∀ {n}, (∀ i, i < n → p i = q i) → sumB p n = sumB q n
  | 0, _ => rfl
  | n + 1, h => by
    unfold sumB
    rw [sum_congr (fun i hi => h i (by omega)), h n (by omega)]
theorem can_eq (t : Tst) : t.canR = docCan t := by
  unfold Tst.canR docCan
  rw [err_eq]
  by_cases h0 : docErr t = 0
  · rw [if_pos h0, if_pos h0]
    have hv : t.valid = true := by
      cases hv : t.valid
      · rw [derr_no hv] at h0; cases h0
      · rfl
    have hk := Tst.ok hv
    have h1 := (bits_lt (t := t) (2 ^ t.n) (Nat.le_refl _)).1
    have e : sumB (fun i => (leakO t i).isSome) t.n = sumB (hasB (verd t).can) t.n := sum_congr fun s hs => by
      rw [← leak_eq hk hs]
      cases hasB (verd t).can s <;> rfl
    rw [e, sum_mod]
    exact (Nat.mod_eq_of_lt h1).symm
  · rw [if_neg h0, if_neg h0]
theorem without_iff {t : Tst} (hk : t.Ok) {s : Nat} (hs : s < t.n) : withoutB t s = true ↔ ∃ x, x < 2 ^ t.n ∧ (gR t x).isSome = true ∧ hasB x s = false := by
  have h10 := pow_ten hk.n2
  have hn := hk.n2
  unfold withoutB
  rw [Bool.or_eq_true, anyB_iff]
  constructor
  · rintro (h | ⟨i, hi, h⟩)
    · exact ⟨0, Nat.two_pow_pos _, by rw [zero_some hk]; exact h, zero_st.2.2 s (by omega)⟩
    · unfold wi at h
      simp only [Bool.and_eq_true, Bool.not_eq_true', decide_eq_false_iff_not, Bool.or_eq_true, decide_eq_true_eq] at h
      obtain ⟨hne, ⟨h1, h2⟩ | ⟨h1, h2⟩⟩ := h
      · refine ⟨2 ^ i, Nat.pow_lt_pow_right (by omega) hi, ?_, ?_⟩
        · rw [gR_one hk (by omega), if_neg (by omega)]
          cases ho : oneR t i with
          | none => rw [ho] at h1; cases h1
          | some b => rfl
        · rw [(one_st (i := i) (by omega)).2.2.2 s (by omega)]; simpa using Ne.symm hne
      · obtain ⟨k, hki, hw⟩ := anyB_iff.1 h2
        unfold wk at hw
        simp only [Bool.and_eq_true, Bool.not_eq_true', decide_eq_false_iff_not] at hw
        obtain ⟨hkn, hw⟩ := hw
        refine ⟨2 ^ k + 2 ^ i, pow_two_lt hki hi, ?_, ?_⟩
        · rcases (gR_two hk (i := k) (j := i) (by omega) (by omega) hki).2 h1 with ⟨q, hq, -, -⟩ | ⟨-, -, e2⟩
          · rw [hq]; rfl
          · rw [e2] at hw; cases hw
        · rw [(two_st (i := k) (j := i) (by omega) (by omega) hki).2.2.2 s (by omega)]
          rw [decide_eq_false (Ne.symm hkn), decide_eq_false (Ne.symm hne)]; rfl
  · rintro ⟨x, hx, h, hb⟩
    cases hg : gR t x with
    | none => rw [hg] at h; cases h
    | some p =>
      rcases gR_few hk (by omega) hg with rfl | ⟨i, hi, rfl⟩ | ⟨i, j, hi, hj, hij, rfl⟩
      · left; rw [← zero_some hk, hg]; rfl
      · right
        have hin : i < t.n := pow_lt_of hx
        rw [(one_st hi).2.2.2 s (by omega)] at hb
        have hne : s ≠ i := by simpa using hb
        refine ⟨i, hin, ?_⟩
        rw [gR_one hk hi] at hg
        by_cases hl : t.leaks < 1
        · rw [if_pos hl] at hg; cases hg
        · rw [if_neg hl] at hg
          unfold wi
          have ho : (oneR t i).isSome = true := by
            cases ho : oneR t i with
            | none => rw [ho] at hg; cases hg
            | some b => rfl
          rw [ho, decide_eq_false (Ne.symm hne), decide_eq_true (show 1 ≤ t.leaks by omega)]; rfl
      · right
        have hjn : j < t.n := pow_lt_of (Nat.lt_of_le_of_lt (Nat.le_add_left _ _) hx)
        rw [(two_st hi hj hij).2.2.2 s (by omega), Bool.or_eq_false_iff] at hb
        have hn1 : s ≠ i := by simpa using hb.1
        have hn2 : s ≠ j := by simpa using hb.2
        obtain ⟨g0, g1⟩ := gR_two hk hi hj hij
        by_cases hl : t.leaks < 2
        · rw [g0 hl] at hg; cases hg
        · rcases g1 (by omega) with ⟨q, hq, e1, e2⟩ | ⟨hq, -, -⟩
          · refine ⟨j, hjn, ?_⟩
            unfold wi
            rw [decide_eq_false (Ne.symm hn2), decide_eq_true (show 2 ≤ t.leaks by omega), anyB_hit (k := i) hij (by unfold wk; rw [e2, decide_eq_false (Ne.symm hn1)]; rfl)]
            simp
          · rw [hq] at hg; cases hg
theorem surely_eq (t : Tst) : t.surelyR = docSurely t := by
  unfold Tst.surelyR docSurely
  rw [err_eq]
  by_cases h0 : docErr t = 0
  · rw [if_pos h0, if_pos h0]
    have hv : t.valid = true := by
      cases hv : t.valid
      · rw [derr_no hv] at h0; cases h0
      · rfl
    have hk := Tst.ok hv
    have h1 := (bits_lt (t := t) (2 ^ t.n) (Nat.le_refl _)).2
    have e : sumB (fun i => !withoutB t i) t.n = sumB (hasB (verd t).surely) t.n := sum_congr fun s hs => by
      have e1 : hasB (verd t).surely s = (hasB (2 ^ t.n - 1) s && allB (2 ^ t.n) (fun x => !(gR t x).isSome || hasB x s)) := surely_fold t s (2 ^ t.n)
      have e2 : hasB (2 ^ t.n - 1) s = true := by rw [hasB_bit, Nat.testBit_two_pow_sub_one]; simpa using hs
      rw [e1, e2, Bool.true_and]
      cases hw : withoutB t s
      · symm
        rw [Bool.not_false, allB_iff]
        intro x hx
        cases hg : (gR t x).isSome
        · rfl
        · cases hb : hasB x s
          · rw [(without_iff hk hs).2 ⟨x, hx, hg, hb⟩] at hw; cases hw
          · rfl
      · obtain ⟨x, hx, hg, hb⟩ := (without_iff hk hs).1 hw
        symm
        exact allB_false hx (by rw [hg, hb]; rfl)
    rw [e, sum_mod]
    exact (Nat.mod_eq_of_lt h1).symm
  · rw [if_neg h0, if_neg h0]
theorem sound_eq (t : Tst) : t.soundR = docSound t := by
  unfold Tst.soundR docSound
  rw [err_eq]
  by_cases h0 : docErr t = 0
  · rw [if_pos h0, if_pos h0]
    have hv : t.valid = true := by
      cases hv : t.valid
      · rw [derr_no hv] at h0; cases h0
      · rfl
    have hk := Tst.ok hv
    have e : (verd t).sound = anyB (2 ^ t.n) (fun x => (gR t x).isSome && decide (x = 0)) := sound_fold t (2 ^ t.n)
    rw [e, Bool.eq_iff_iff, anyB_iff]
    constructor
    · rintro ⟨x, hx, h⟩
      simp only [Bool.and_eq_true, decide_eq_true_eq] at h
      obtain ⟨h, rfl⟩ := h
      rw [← zero_some hk]; exact h
    · intro h
      exact ⟨0, Nat.two_pow_pos _, by rw [zero_some hk, h]; rfl⟩
  · rw [if_neg h0, if_neg h0]
theorem leakErr_eq (t : Tst) (x : Int) : t.leakErr x = docLeakErr t x ∧ t.leakR x = docLeak t x := by
  have key : t.leakErr x = docLeakErr t x := by
    unfold Tst.leakErr docLeakErr
    cases hv : t.valid
    · rfl
    · have hk := Tst.ok hv
      rw [fits_eq hk]
      by_cases hin : 0 ≤ x ∧ x ≤ (t.n : Int) - 1
      · rw [← leak_eq hk (s := x.toNat) (by omega)]
        cases hasB (verd t).can x.toNat <;> rfl
      · rw [within_no hin]; rfl
  refine ⟨key, ?_⟩
  unfold Tst.leakR docLeak
  rw [key]
  by_cases h0 : docLeakErr t x = 0
  · rw [if_pos h0, if_pos h0]
    have hv : t.valid = true := by
      cases hv : t.valid
      · unfold docLeakErr at h0; rw [hv] at h0; cases h0
      · rfl
    have hk := Tst.ok hv
    have hin : 0 ≤ x ∧ x ≤ (t.n : Int) - 1 := by
      by_cases hin : 0 ≤ x ∧ x ≤ (t.n : Int) - 1
      · exact hin
      · unfold docLeakErr at h0; rw [hv, within_no hin] at h0; cases h0
    rw [← key] at h0
    have hb : hasB (verd t).can x.toNat = true := by
      cases hb : hasB (verd t).can x.toNat
      · unfold Tst.leakErr at h0
        rw [hv, within_yes hin, hb] at h0
        cases hf : t.fitB <;> rw [hf] at h0 <;> cases h0
      · rfl
    rw [← leak_eq hk (s := x.toNat) (by omega), hb]; rfl
  · rw [if_neg h0, if_neg h0]
end Go.Proofs.YtpognhnmkjpipaaDoor
