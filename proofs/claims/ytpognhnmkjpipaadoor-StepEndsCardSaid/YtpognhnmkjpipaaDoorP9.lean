/- With a step more no more sets fit, with more leaks or a lesser least no fewer; plain, no program in sight. -/
import Derived.Test.YtpognhnmkjpipaaDoorP8
namespace Go.Proofs.YtpognhnmkjpipaaDoor
/-- the first span lies in the second one -/
def Spn.sub (a b : Spn) : Prop := b.lo ≤ a.lo ∧ a.hi ≤ b.hi
structure Pr.Sub (p q : Pr) : Prop where
  a : p.a.sub q.a
  b : p.b.sub q.b
  c : p.c.sub q.c
theorem Spn.sub_refl (a : Spn) : a.sub a := ⟨Int.le_refl _, Int.le_refl _⟩
theorem Pr.sub_refl (p : Pr) : p.Sub p := ⟨Spn.sub_refl _, Spn.sub_refl _, Spn.sub_refl _⟩
theorem cutS_sub {a b : Spn} (h : a.sub b) (r : Spn) : (cutS a r).sub (cutS b r) := by
  unfold Spn.sub at *
  simp only [cutS]; omega
theorem cutS_le (a r : Spn) : (cutS a r).sub a := by
  unfold Spn.sub
  simp only [cutS]; omega
theorem narrow_sub {p q : Pr} (h : p.Sub q) : p.narrow.Sub q.narrow := by
  obtain ⟨h1, h2, h3⟩ := h
  unfold Spn.sub at *
  refine ⟨?_, ?_, h3⟩ <;> simp only [Pr.narrow, Spn.sub, cutS] <;> omega
theorem can_sub {p q : Pr} (h : p.Sub q) (hc : p.can = true) : q.can = true := by
  obtain ⟨h1, h2, h3⟩ := h
  unfold Spn.sub at *
  rw [can_iff] at *
  omega
theorem narrowI_sub {p q : Pr} {x : Nat} (h : p.Sub q) : (narrowI x p).Sub (narrowI x q) := by
  unfold narrowI
  split
  · exact narrow_sub h
  · exact h
theorem cutO_sub {x : Nat} {r : Stp} {p q p' : Pr} (h : p.Sub q) (hc : cutO x r p = some p') : ∃ q', cutO x r q = some q' ∧ p'.Sub q' := by
  obtain ⟨h1, h2, h3⟩ := h
  unfold cutO at *
  split at hc
  · cases hc
  · rename_i h9
    rw [if_neg h9]
    split at hc
    · rename_i h8; rw [if_pos h8]; cases hc; exact ⟨_, rfl, h1, h2, cutS_sub h3 _⟩
    · rename_i h8; rw [if_neg h8]
      split at hc
      · rename_i h7; rw [if_pos h7]; cases hc; exact ⟨_, rfl, cutS_sub h1 _, h2, h3⟩
      · rename_i h7; rw [if_neg h7]
        split at hc
        · rename_i h6; rw [if_pos h6]; cases hc; exact ⟨_, rfl, h1, cutS_sub h2 _, h3⟩
        · rename_i h6; rw [if_neg h6]; cases hc; exact ⟨_, rfl, h1, h2, h3⟩
theorem cutO_le {x : Nat} {r : Stp} {p p' : Pr} (hc : cutO x r p = some p') : p'.Sub p := by
  unfold cutO at hc
  split at hc
  · cases hc
  · split at hc
    · cases hc; exact ⟨Spn.sub_refl _, Spn.sub_refl _, cutS_le _ _⟩
    · split at hc
      · cases hc; exact ⟨cutS_le _ _, Spn.sub_refl _, Spn.sub_refl _⟩
      · split at hc
        · cases hc; exact ⟨Spn.sub_refl _, cutS_le _ _, Spn.sub_refl _⟩
        · cases hc; exact Pr.sub_refl _
/-- each set that fits the first test fits the second one -/
structure Wk (t t' : Tst) : Prop where
  n : t'.n = t.n
  fit : ∀ x, (gR t x).isSome = true → (gR t' x).isSome = true
theorem gR_some_iff {t : Tst} {x : Nat} : (gR t x).isSome = true ↔ (sizeN x : Int) ≤ t.leaks ∧ ∃ p, gK t x t.m = some p ∧ (narrowI x p).can = true := by
  unfold gR
  by_cases h : t.leaks < (sizeN x : Int)
  · rw [if_pos h]
    constructor
    · intro h; cases h
    · rintro ⟨h9, -⟩; omega
  · rw [if_neg h]
    constructor
    · intro h9
      refine ⟨by omega, ?_⟩
      cases hg : gK t x t.m with
      | none => rw [hg] at h9; cases h9
      | some p =>
        rw [hg] at h9
        simp only [Option.bind_some] at h9
        refine ⟨p, rfl, ?_⟩
        cases hc : (narrowI x p).can
        · rw [hc] at h9; cases h9
        · rfl
    · rintro ⟨-, p, hg, hc⟩
      rw [hg]
      simp only [Option.bind_some]
      rw [hc]; rfl
def Tst.doubt (t : Tst) : Tst := { t with leaks := min 2 (t.leaks + 1) }
def Tst.low (t : Tst) (b : Nat) : Tst := { t with least := max 1 (t.least - b) }
def Tst.rich (t : Tst) (s : Stp) : Tst := { t with m := t.m + 1, s := fun i => if i < t.m then t.s i else s }
theorem gK_doubt (t : Tst) (x : Nat) : ∀ k, gK t.doubt x k = gK t x k
  | 0 => rfl
  | k + 1 => by
    show (gK t.doubt x k).bind (cutO x (t.doubt.rest k)) = (gK t x k).bind (cutO x (t.rest k))
    rw [gK_doubt t x k]; rfl
theorem doubt_wk {t : Tst} (h : t.leaks ≤ 2) : Wk t t.doubt := ⟨rfl, fun x hx => by
  rw [gR_some_iff] at *
  obtain ⟨h1, p, h2, h3⟩ := hx
  exact ⟨by show _ ≤ min 2 (t.leaks + 1); omega, p, by rw [gK_doubt]; exact h2, h3⟩⟩
theorem gK_low {t : Tst} {b : Nat} (he : 1 ≤ t.least) (x : Nat) : ∀ k p, gK t x k = some p → ∃ q, gK (t.low b) x k = some q ∧ p.Sub q
  | 0, p, h => by
    cases h
    refine ⟨_, rfl, ?_⟩
    refine ⟨⟨?_, Int.le_refl _⟩, ⟨?_, Int.le_refl _⟩, Spn.sub_refl _⟩
    · show max 1 (t.least - b) ≤ t.least; omega
    · show max 1 (t.least - b) ≤ t.least; omega
  | k + 1, p, h => by
    have h9 : (gK t x k).bind (cutO x (t.rest k)) = some p := h
    cases hg : gK t x k with
    | none => rw [hg] at h9; cases h9
    | some p0 =>
      rw [hg] at h9
      obtain ⟨q0, hq, hs⟩ := gK_low (b := b) he x k p0 hg
      obtain ⟨q1, hq1, hs1⟩ := cutO_sub hs h9
      refine ⟨q1, ?_, hs1⟩
      show (gK (t.low b) x k).bind (cutO x ((t.low b).rest k)) = some q1
      rw [hq]
      exact hq1
theorem low_wk {t : Tst} (he : 1 ≤ t.least) (b : Nat) : Wk t (t.low b) := ⟨rfl, fun x hx => by
  rw [gR_some_iff] at *
  obtain ⟨h1, p, h2, h3⟩ := hx
  obtain ⟨q, hq, hs⟩ := gK_low (b := b) he x _ _ h2
  exact ⟨h1, q, hq, can_sub (narrowI_sub hs) h3⟩⟩
theorem rest_rich {t : Tst} {s : Stp} {k : Nat} (hk : k < t.m) : (t.rich s).rest k = t.rest k := by
  unfold Tst.rest
  have e : (t.rich s).s k = t.s k := if_pos hk
  rw [e]; rfl
theorem gK_rich (t : Tst) (s : Stp) (x : Nat) : ∀ k, k ≤ t.m → gK (t.rich s) x k = gK t x k
  | 0, _ => rfl
  | k + 1, h => by
    show (gK (t.rich s) x k).bind (cutO x ((t.rich s).rest k)) = (gK t x k).bind (cutO x (t.rest k))
    rw [gK_rich t s x k (by omega), rest_rich (by omega)]
theorem rich_wk (t : Tst) (s : Stp) : Wk (t.rich s) t := ⟨rfl, fun x hx => by
  rw [gR_some_iff] at *
  obtain ⟨h1, p, h2, h3⟩ := hx
  have h9 : (gK (t.rich s) x t.m).bind (cutO x ((t.rich s).rest t.m)) = some p := h2
  rw [gK_rich t s x t.m (Nat.le_refl _)] at h9
  cases hg : gK t x t.m with
  | none => rw [hg] at h9; cases h9
  | some q =>
    rw [hg] at h9
    exact ⟨h1, q, rfl, can_sub (narrowI_sub (cutO_le h9)) h3⟩⟩
theorem can_fold (t : Tst) (s : Nat) : ∀ k, hasB (verdF t (gL t k)).can s = anyB k (fun x => (gR t x).isSome && hasB x s)
  | 0 => by
    show hasB 0 s = _
    rw [hasB_bit, Nat.zero_testBit]; rfl
  | k + 1 => by
    rw [anyB_succ]
    cases hg : gR t k with
    | none => rw [gL_none hg, can_fold t s k]; simp
    | some p =>
      rw [gL_some hg, verdF_snoc]
      show hasB ((verdF t (gL t k)).can ||| k) s = _
      rw [hasB_or, can_fold t s k]; simp
theorem wk_fit {t t' : Tst} (h : Wk t t') (hf : t.fitB = true) : t'.fitB = true := by
  rw [fit_iff] at *
  obtain ⟨x, hx, hg⟩ := hf
  exact ⟨x, by rw [h.n]; exact hx, h.fit x hg⟩
theorem wk_can {t t' : Tst} (h : Wk t t') (s : Nat) (hs : hasB (verd t).can s = true) : hasB (verd t').can s = true := by
  have e1 : hasB (verd t).can s = anyB (2 ^ t.n) (fun x => (gR t x).isSome && hasB x s) := can_fold t s _
  have e2 : hasB (verd t').can s = anyB (2 ^ t'.n) (fun x => (gR t' x).isSome && hasB x s) := can_fold t' s _
  rw [e1, anyB_iff] at hs
  rw [e2, anyB_iff]
  obtain ⟨x, hx, hg⟩ := hs
  simp only [Bool.and_eq_true] at hg
  exact ⟨x, by rw [h.n]; exact hx, by rw [h.fit x hg.1, hg.2]; rfl⟩
theorem wk_surely {t t' : Tst} (h : Wk t t') (s : Nat) (hs : hasB (verd t').surely s = true) : hasB (verd t).surely s = true := by
  have e1 : hasB (verd t).surely s = (hasB (2 ^ t.n - 1) s && allB (2 ^ t.n) (fun x => !(gR t x).isSome || hasB x s)) := surely_fold t s _
  have e2 : hasB (verd t').surely s = (hasB (2 ^ t'.n - 1) s && allB (2 ^ t'.n) (fun x => !(gR t' x).isSome || hasB x s)) := surely_fold t' s _
  rw [e2, h.n, Bool.and_eq_true, allB_iff] at hs
  rw [e1, Bool.and_eq_true, allB_iff]
  refine ⟨hs.1, fun x hx => ?_⟩
  have := hs.2 x hx
  cases hg : (gR t x).isSome
  · rfl
  · rw [h.fit x hg] at this; exact this
theorem surely_can {t : Tst} (hf : t.fitB = true) (s : Nat) (hs : hasB (verd t).surely s = true) : hasB (verd t).can s = true := by
  have e1 : hasB (verd t).surely s = (hasB (2 ^ t.n - 1) s && allB (2 ^ t.n) (fun x => !(gR t x).isSome || hasB x s)) := surely_fold t s _
  have e2 : hasB (verd t).can s = anyB (2 ^ t.n) (fun x => (gR t x).isSome && hasB x s) := can_fold t s _
  rw [e1, Bool.and_eq_true, allB_iff] at hs
  rw [e2, anyB_iff]
  rw [fit_iff] at hf
  obtain ⟨x, hx, hg⟩ := hf
  have := hs.2 x hx
  rw [hg] at this
  exact ⟨x, hx, by rw [hg]; simpa using this⟩
theorem sub_zero {a b : Nat} (h : ∀ s, hasB a s = true → hasB b s = true) : a ^^^ (a &&& b) = 0 := by
  apply Nat.eq_of_testBit_eq
  intro s
  have := h s
  rw [hasB_bit, hasB_bit] at this
  rw [Nat.testBit_xor, Nat.testBit_and, Nat.zero_testBit]
  cases ha : a.testBit s
  · rfl
  · rw [this ha]; rfl
theorem res_ok {t : Tst} (h : t.err = 0) : t.valid = true ∧ t.fitB = true ∧ t.canR = (verd t).can ∧ t.surelyR = (verd t).surely := by
  refine ⟨?_, ?_, ?_, ?_⟩
  · unfold Tst.err at h
    cases hv : t.valid
    · rw [hv] at h; cases h
    · rfl
  · unfold Tst.err at h
    cases hv : t.valid
    · rw [hv] at h; cases h
    · rw [hv] at h
      cases hf : t.fitB
      · rw [hf] at h; cases h
      · rfl
  · unfold Tst.canR; rw [if_pos h]
  · unfold Tst.surelyR; rw [if_pos h]
theorem res_no {t : Tst} (h : t.err ≠ 0) : t.canR = 0 ∧ t.surelyR = 0 := ⟨by unfold Tst.canR; rw [if_neg h], by unfold Tst.surelyR; rw [if_neg h]⟩
theorem err_three (t : Tst) : t.err = 0 ∨ t.err = 1 ∨ t.err = 6 := by
  unfold Tst.err
  cases t.valid
  · exact .inr (.inl rfl)
  · cases t.fitB
    · exact .inr (.inr rfl)
    · exact .inl rfl
theorem err_valid {t : Tst} : t.err = 1 ↔ t.valid = false := by
  unfold Tst.err
  cases t.valid
  · simp
  · cases t.fitB <;> simp
/-- surely and can of one test -/
theorem own_sub (t : Tst) : t.surelyR ^^^ (t.surelyR &&& t.canR) = 0 ∧ t.canR < 2 ^ t.n := by
  by_cases h : t.err = 0
  · obtain ⟨h1, h2, h3, h4⟩ := res_ok h
    rw [h3, h4]
    exact ⟨sub_zero (surely_can h2), (bits_lt (t := t) (2 ^ t.n) (Nat.le_refl _)).1⟩
  · obtain ⟨h1, h2⟩ := res_no h
    rw [h1, h2]
    exact ⟨rfl, Nat.two_pow_pos _⟩
/-- the weaker test -/
theorem wk_res {t t' : Tst} (h : Wk t t') (hv : t'.valid = true) (he : t.err = 0) : t'.err = 0 ∧ t.canR ^^^ (t.canR &&& t'.canR) = 0 ∧ t'.surelyR ^^^ (t'.surelyR &&& t.surelyR) = 0 := by
  obtain ⟨h1, h2, h3, h4⟩ := res_ok he
  have h5 : t'.err = 0 := by
    unfold Tst.err
    rw [hv, wk_fit h h2]; rfl
  obtain ⟨k1, k2, k3, k4⟩ := res_ok h5
  rw [h3, h4, k3, k4]
  exact ⟨h5, sub_zero (wk_can h), sub_zero (wk_surely h)⟩
theorem head_iff {t : Tst} : t.head = true ↔ (1 ≤ (t.n : Int) ∧ (t.n : Int) ≤ 10) ∧ (0 ≤ t.leaks ∧ t.leaks ≤ 2) ∧ (1 ≤ t.least ∧ t.least ≤ 1073741824) ∧ t.m ≤ 12 := by
  unfold Tst.head withinB
  rw [Bool.and_eq_true, Bool.and_eq_true, Bool.and_eq_true]
  exact ⟨fun h => ⟨of_decide_eq_true h.1, of_decide_eq_true h.2.1, of_decide_eq_true h.2.2.1, of_decide_eq_true h.2.2.2⟩, fun h => ⟨decide_eq_true h.1, decide_eq_true h.2.1, decide_eq_true h.2.2.1, decide_eq_true h.2.2.2⟩⟩
theorem doubt_valid {t : Tst} (h : t.valid = true) : t.doubt.valid = true := by
  unfold Tst.valid at *
  rw [Bool.and_eq_true] at *
  refine ⟨?_, h.2⟩
  have := head_iff.1 h.1
  rw [head_iff]
  show _ ∧ (0 ≤ min 2 (t.leaks + 1) ∧ min 2 (t.leaks + 1) ≤ 2) ∧ _ ∧ _
  exact ⟨this.1, by omega, this.2.2.1, this.2.2.2⟩
theorem low_valid {t : Tst} (h : t.valid = true) (b : Nat) : (t.low b).valid = true := by
  unfold Tst.valid at *
  rw [Bool.and_eq_true] at *
  refine ⟨?_, h.2⟩
  have := head_iff.1 h.1
  rw [head_iff]
  show _ ∧ _ ∧ (1 ≤ max 1 (t.least - b) ∧ max 1 (t.least - b) ≤ 1073741824) ∧ _
  exact ⟨this.1, this.2.1, by omega, this.2.2.2⟩
end Go.Proofs.YtpognhnmkjpipaaDoor
