/- With a step more no more sets fit, with more leaks or a lesser least no fewer; plain, no program in sight. A test with one step more, where all streets but one are shut: what it says of that street; plain, no program in sight. -/
import Derived.Test.YtmeeknmjhlfnaaaDoorP8
namespace Go.Proofs.YtmeeknmjhlfnaaaDoor
/-- the first span lies in the second one -/
def Spn.sub (a b : Spn) : Prop := b.lo ≤ a.lo ∧ a.hi ≤ b.hi
structure Pr.Sub (p q : Pr) : Prop where
  a : p.a.sub q.a
  b : p.b.sub q.b
  c : p.c.sub q.c
theorem Spn.sub_refl (a : Spn) : a.sub a := ⟨Int.le_refl _, Int.le_refl _⟩
theorem Pr.sub_refl (p : Pr) : p.Sub p := ⟨Spn.sub_refl _, Spn.sub_refl _, Spn.sub_refl _⟩
theorem cutS_sub {a b : Spn} (h : a.sub b) (r : Spn) : (cutS a r).sub (cutS b r) := by
  unfold Spn.sub at *
  simp only [cutS]; omega
theorem cutS_le (a r : Spn) : (cutS a r).sub a := by
  unfold Spn.sub
  simp only [cutS]; omega
theorem narrow_sub {p q : Pr} (h : p.Sub q) : p.narrow.Sub q.narrow := by
  obtain ⟨h1, h2, h3⟩ := h
  unfold Spn.sub at *
  refine ⟨?_, ?_, h3⟩ <;> simp only [Pr.narrow, Spn.sub, cutS] <;> omega
theorem can_sub {p q : Pr} (h : p.Sub q) (hc : p.can = true) : q.can = true := by
  obtain ⟨h1, h2, h3⟩ := h
  unfold Spn.sub at *
  rw [can_iff] at *
  omega
theorem narrowI_sub {p q : Pr} {x : Nat} (h : p.Sub q) : (narrowI x p).Sub (narrowI x q) := by
  unfold narrowI
  split
  · exact narrow_sub h
  · exact h
theorem cutO_sub {x : Nat} {r : Stp} {p q p' : Pr} (h : p.Sub q) (hc : cutO x r p = some p') : ∃ q', cutO x r q = some q' ∧ p'.Sub q' := by
  obtain ⟨h1, h2, h3⟩ := h
  unfold cutO at *
  split at hc
  · cases hc
  · rename_i h9
    rw [if_neg h9]
    split at hc
    · rename_i h8; rw [if_pos h8]; cases hc; exact ⟨_, rfl, h1, h2, cutS_sub h3 _⟩
    · rename_i h8; rw [if_neg h8]
      split at hc
      · rename_i h7; rw [if_pos h7]; cases hc; exact ⟨_, rfl, cutS_sub h1 _, h2, h3⟩
      · rename_i h7; rw [if_neg h7]
        split at hc
        · rename_i h6; rw [if_pos h6]; cases hc; exact ⟨_, rfl, h1, cutS_sub h2 _, h3⟩
        · rename_i h6; rw [if_neg h6]; cases hc; exact ⟨_, rfl, h1, h2, h3⟩
theorem cutO_le {x : Nat} {r : Stp} {p p' : Pr} (hc : cutO x r p = some p') : p'.Sub p := by
  unfold cutO at hc
  split at hc
  · cases hc
  · split at hc
    · cases hc; exact ⟨Spn.sub_refl _, Spn.sub_refl _, cutS_le _ _⟩
    · split at hc
      · cases hc; exact ⟨cutS_le _ _, Spn.sub_refl _, Spn.sub_refl _⟩
      · split at hc
        · cases hc; exact ⟨Spn.sub_refl _, cutS_le _ _, Spn.sub_refl _⟩
        · cases hc; exact Pr.sub_refl _
/-- each set that fits the first test fits the second one -/
structure Wk (t t' : Tst) : Prop where
  n : t'.n = t.n
  fit : ∀ x, (gR t x).isSome = true → (gR t' x).isSome = true
theorem gR_some_iff {t : Tst} {x : Nat} : (gR t x).isSome = true ↔ (sizeN x : Int) ≤ t.leaks ∧ ∃ p, gK t x t.m = some p ∧ (narrowI x p).can = true := by
  unfold gR
  by_cases h : t.leaks < (sizeN x : Int)
  · rw [if_pos h]
    constructor
    · intro h; cases h
    · rintro ⟨h9, -⟩; omega
  · rw [if_neg h]
    constructor
    · intro h9
      refine ⟨by omega, ?_⟩
      cases hg : gK t x t.m with
      | none => rw [hg] at h9; cases h9
      | some p =>
        rw [hg] at h9
        simp only [Option.bind_some] at h9
        refine ⟨p, rfl, ?_⟩
        cases hc : (narrowI x p).can
        · rw [hc] at h9; cases h9
        · rfl
    · rintro ⟨-, p, hg, hc⟩
      rw [hg]
      simp only [Option.bind_some]
      rw [hc]; rfl
def Tst.doubt (t : Tst) : Tst := { t with leaks := min 2 (t.leaks + 1) }
def Tst.low (t : Tst) (b : Nat) : Tst := { t with least := max 1 (t.least - b) }
def Tst.rich (t : Tst) (s : Stp) : Tst := { t with m := t.m + 1, s := fun i => if i < t.m then t.s i else s }
theorem gK_doubt (t : Tst) (x : Nat) : ∀ k, gK t.doubt x k = gK t x k
  | 0 => rfl
  | k + 1 => by
    show (gK t.doubt x k).bind (cutO x (t.doubt.rest k)) = (gK t x k).bind (cutO x (t.rest k))
    rw [gK_doubt t x k]; rfl
theorem doubt_wk {t : Tst} (h : t.leaks ≤ 2) : Wk t t.doubt := ⟨rfl, fun x hx => by
  rw [gR_some_iff] at *
  obtain ⟨h1, p, h2, h3⟩ := hx
  exact ⟨by show _ ≤ min 2 (t.leaks + 1); omega, p, by rw [gK_doubt]; exact h2, h3⟩⟩
theorem gK_low {t : Tst} {b : Nat} (he : 1 ≤ t.least) (x : Nat) : ∀ k p, gK t x k = some p → ∃ q, gK (t.low b) x k = some q ∧ p.Sub q
  | 0, p, h => by
    cases h
    refine ⟨_, rfl, ?_⟩
    refine ⟨⟨?_, Int.le_refl _⟩, ⟨?_, Int.le_refl _⟩, Spn.sub_refl _⟩
    · show max 1 (t.least - b) ≤ t.least; omega
    · show max 1 (t.least - b) ≤ t.least; omega
  | k + 1, p, h => by
    have h9 : (gK t x k).bind (cutO x (t.rest k)) = some p := h
    cases hg : gK t x k with
    | none => rw [hg] at h9; cases h9
    | some p0 =>
      rw [hg] at h9
      obtain ⟨q0, hq, hs⟩ := gK_low (b := b) he x k p0 hg
      obtain ⟨q1, hq1, hs1⟩ := cutO_sub hs h9
      refine ⟨q1, ?_, hs1⟩
      show (gK (t.low b) x k).bind (cutO x ((t.low b).rest k)) = some q1
      rw [hq]
      exact hq1
theorem low_wk {t : Tst} (he : 1 ≤ t.least) (b : Nat) : Wk t (t.low b) := ⟨rfl, fun x hx => by
  rw [gR_some_iff] at *
  obtain ⟨h1, p, h2, h3⟩ := hx
  obtain ⟨q, hq, hs⟩ := gK_low (b := b) he x _ _ h2
  exact ⟨h1, q, hq, can_sub (narrowI_sub hs) h3⟩⟩
theorem rest_rich {t : Tst} {s : Stp} {k : Nat} (hk : k < t.m) : (t.rich s).rest k = t.rest k := by
  unfold Tst.rest
  have e : (t.rich s).s k = t.s k := if_pos hk
  rw [e]; rfl
theorem gK_rich (t : Tst) (s : Stp) (x : Nat) : ∀ k, k ≤ t.m → gK (t.rich s) x k = gK t x k
  | 0, _ => rfl
  | k + 1, h => by
    show (gK (t.rich s) x k).bind (cutO x ((t.rich s).rest k)) = (gK t x k).bind (cutO x (t.rest k))
    rw [gK_rich t s x k (by omega), rest_rich (by omega)]
theorem rich_wk (t : Tst) (s : Stp) : Wk (t.rich s) t := ⟨rfl, fun x hx => by
  rw [gR_some_iff] at *
  obtain ⟨h1, p, h2, h3⟩ := hx
  have h9 : (gK (t.rich s) x t.m).bind (cutO x ((t.rich s).rest t.m)) = some p := h2
  rw [gK_rich t s x t.m (Nat.le_refl _)] at h9
  cases hg : gK t x t.m with
  | none => rw [hg] at h9; cases h9
  | some q =>
    rw [hg] at h9
    exact ⟨h1, q, rfl, can_sub (narrowI_sub (cutO_le h9)) h3⟩⟩
theorem can_fold (t : Tst) (s : Nat) : ∀ k, hasB (verdF t (gL t k)).can s = anyB k (fun x => (gR t x).isSome && hasB x s)
  | 0 => by
    show hasB 0 s = _
    rw [hasB_bit, Nat.zero_testBit]; rfl
  | k + 1 => by
    rw [anyB_succ]
    cases hg : gR t k with
    | none => rw [gL_none hg, can_fold t s k]; simp
    | some p =>
      rw [gL_some hg, verdF_snoc]
      show hasB ((verdF t (gL t k)).can ||| k) s = _
      rw [hasB_or, can_fold t s k]; simp
theorem wk_fit {t t' : Tst} (h : Wk t t') (hf : t.fitB = true) : t'.fitB = true := by
  rw [fit_iff] at *
  obtain ⟨x, hx, hg⟩ := hf
  exact ⟨x, by rw [h.n]; exact hx, h.fit x hg⟩
theorem wk_can {t t' : Tst} (h : Wk t t') (s : Nat) (hs : hasB (verd t).can s = true) : hasB (verd t').can s = true := by
  have e1 : hasB (verd t).can s = anyB (2 ^ t.n) (fun x => (gR t x).isSome && hasB x s) := can_fold t s _
  have e2 : hasB (verd t').can s = anyB (2 ^ t'.n) (fun x => (gR t' x).isSome && hasB x s) := can_fold t' s _
  rw [e1, anyB_iff] at hs
  rw [e2, anyB_iff]
  obtain ⟨x, hx, hg⟩ := hs
  simp only [Bool.and_eq_true] at hg
  exact ⟨x, by rw [h.n]; exact hx, by rw [h.fit x hg.1, hg.2]; rfl⟩
theorem wk_surely {t t' : Tst} (h : Wk t t') (s : Nat) (hs : hasB (verd t').surely s = true) : hasB (verd t).surely s = true := by
  have e1 : hasB (verd t).surely s = (hasB (2 ^ t.n - 1) s && allB (2 ^ t.n) (fun x => !(gR t x).isSome || hasB x s)) := surely_fold t s _
  have e2 : hasB (verd t').surely s = (hasB (2 ^ t'.n - 1) s && allB (2 ^ t'.n) (fun x => !(gR t' x).isSome || hasB x s)) := surely_fold t' s _
  rw [e2, h.n, Bool.and_eq_true, allB_iff] at hs
  rw [e1, Bool.and_eq_true, allB_iff]
  refine ⟨hs.1, fun x hx => ?_⟩
  have := hs.2 x hx
  cases hg : (gR t x).isSome
  · rfl
  · rw [h.fit x hg] at this; exact this
theorem surely_can {t : Tst} (hf : t.fitB = true) (s : Nat) (hs : hasB (verd t).surely s = true) : hasB (verd t).can s = true := by
  have e1 : hasB (verd t).surely s = (hasB (2 ^ t.n - 1) s && allB (2 ^ t.n) (fun x => !(gR t x).isSome || hasB x s)) := surely_fold t s _
  have e2 : hasB (verd t).can s = anyB (2 ^ t.n) (fun x => (gR t x).isSome && hasB x s) := can_fold t s _
  rw [e1, Bool.and_eq_true, allB_iff] at hs
  rw [e2, anyB_iff]
  rw [fit_iff] at hf
  obtain ⟨x, hx, hg⟩ := hf
  have := hs.2 x hx
  rw [hg] at this
  exact ⟨x, hx, by rw [hg]; simpa using this⟩
theorem sub_zero {a b : Nat} (h : ∀ s, hasB a s = true → hasB b s = true) : a ^^^ (a &&& b) = 0 := by
  apply Nat.eq_of_testBit_eq
  intro s
  have := h s
  rw [hasB_bit, hasB_bit] at this
  rw [Nat.testBit_xor, Nat.testBit_and, Nat.zero_testBit]
  cases ha : a.testBit s
  · rfl
  · rw [this ha]; rfl
theorem res_ok {t : Tst} (h : t.err = 0) : t.valid = true ∧ t.fitB = true ∧ t.canR = (verd t).can ∧ t.surelyR = (verd t).surely := by
  refine ⟨?_, ?_, ?_, ?_⟩
  · unfold Tst.err at h
    cases hv : t.valid
    · rw [hv] at h; cases h
    · rfl
  · unfold Tst.err at h
    cases hv : t.valid
    · rw [hv] at h; cases h
    · rw [hv] at h
      cases hf : t.fitB
      · rw [hf] at h; cases h
      · rfl
  · unfold Tst.canR; rw [if_pos h]
  · unfold Tst.surelyR; rw [if_pos h]
theorem res_no {t : Tst} (h : t.err ≠ 0) : t.canR = 0 ∧ t.surelyR = 0 := ⟨by unfold Tst.canR; rw [if_neg h], by unfold Tst.surelyR; rw [if_neg h]⟩
theorem err_three (t : Tst) : t.err = 0 ∨ t.err = 1 ∨ t.err = 6 := by
  unfold Tst.err
  cases t.valid
  · exact .inr (.inl rfl)
  · cases t.fitB
    · exact .inr (.inr rfl)
    · exact .inl rfl
theorem err_valid {t : Tst} : t.err = 1 ↔ t.valid = false := by
  unfold Tst.err
  cases t.valid
  · simp
  · cases t.fitB <;> simp
/-- surely and can of one test -/
theorem own_sub (t : Tst) : t.surelyR ^^^ (t.surelyR &&& t.canR) = 0 ∧ t.canR < 2 ^ t.n := by
  by_cases h : t.err = 0
  · obtain ⟨h1, h2, h3, h4⟩ := res_ok h
    rw [h3, h4]
    exact ⟨sub_zero (surely_can h2), (bits_lt (t := t) (2 ^ t.n) (Nat.le_refl _)).1⟩
  · obtain ⟨h1, h2⟩ := res_no h
    rw [h1, h2]
    exact ⟨rfl, Nat.two_pow_pos _⟩
/-- the weaker test -/
theorem wk_res {t t' : Tst} (h : Wk t t') (hv : t'.valid = true) (he : t.err = 0) : t'.err = 0 ∧ t.canR ^^^ (t.canR &&& t'.canR) = 0 ∧ t'.surelyR ^^^ (t'.surelyR &&& t.surelyR) = 0 := by
  obtain ⟨h1, h2, h3, h4⟩ := res_ok he
  have h5 : t'.err = 0 := by
    unfold Tst.err
    rw [hv, wk_fit h h2]; rfl
  obtain ⟨k1, k2, k3, k4⟩ := res_ok h5
  rw [h3, h4, k3, k4]
  exact ⟨h5, sub_zero (wk_can h), sub_zero (wk_surely h)⟩
theorem head_iff {t : Tst} : t.head = true ↔ (1 ≤ (t.n : Int) ∧ (t.n : Int) ≤ 10) ∧ (0 ≤ t.leaks ∧ t.leaks ≤ 2) ∧ (1 ≤ t.least ∧ t.least ≤ 1073741824) ∧ t.m ≤ 12 := by
  unfold Tst.head withinB
  rw [Bool.and_eq_true, Bool.and_eq_true, Bool.and_eq_true]
  exact ⟨fun h => ⟨of_decide_eq_true h.1, of_decide_eq_true h.2.1, of_decide_eq_true h.2.2.1, of_decide_eq_true h.2.2.2⟩, fun h => ⟨decide_eq_true h.1, decide_eq_true h.2.1, decide_eq_true h.2.2.1, decide_eq_true h.2.2.2⟩⟩
theorem doubt_valid {t : Tst} (h : t.valid = true) : t.doubt.valid = true := by
  unfold Tst.valid at *
  rw [Bool.and_eq_true] at *
  refine ⟨?_, h.2⟩
  have := head_iff.1 h.1
  rw [head_iff]
  show _ ∧ (0 ≤ min 2 (t.leaks + 1) ∧ min 2 (t.leaks + 1) ≤ 2) ∧ _ ∧ _
  exact ⟨this.1, by omega, this.2.2.1, this.2.2.2⟩
theorem low_valid {t : Tst} (h : t.valid = true) (b : Nat) : (t.low b).valid = true := by
  unfold Tst.valid at *
  rw [Bool.and_eq_true] at *
  refine ⟨?_, h.2⟩
  have := head_iff.1 h.1
  rw [head_iff]
  show _ ∧ _ ∧ (1 ≤ max 1 (t.least - b) ∧ max 1 (t.least - b) ≤ 1073741824) ∧ _
  exact ⟨this.1, this.2.1, by omega, this.2.2.2⟩
end Go.Proofs.YtmeeknmjhlfnaaaDoor
namespace Go.Proofs.YtmeeknmjhlfnaaaDoor
theorem shut_all : (List.range 11).all (fun n => (List.range n).all fun s => (List.range n).all fun k => hasB (2 ^ n - 1 - 2 ^ s) k == !decide (k = s)) = true := by kernel_rfl
theorem shut_one {n s k : Nat} (hn : n ≤ 10) (hs : s < n) (hk : k < n) : hasB (2 ^ n - 1 - 2 ^ s) k = !decide (k = s) :=
  by simpa using (List.all_eq_true.1 (List.all_eq_true.1 (List.all_eq_true.1 shut_all n (List.mem_range.2 (by omega))) s (List.mem_range.2 hs)) k (List.mem_range.2 hk))
theorem left_one {u : Nat → Spn} {v : Int} {n s : Nat} (hn : n ≤ 10) (hs : s < n) (hu : (u s).hi = (u s).lo) : ∀ k, k ≤ n → leftK u ⟨v, v⟩ (2 ^ n - 1 - 2 ^ s) k = if s < k then ⟨v - (u s).lo, v - (u s).lo⟩ else ⟨v, v⟩
  | 0, _ => rfl
  | k + 1, h => by
    unfold leftK
    rw [left_one hn hs hu k (by omega), shut_one hn hs (by omega)]
    by_cases hks : k = s
    · subst hks
      rw [if_neg (by simp), if_neg (by omega), if_pos (by omega), hu]
    · rw [if_pos (by simpa using hks)]
      by_cases hsk : s < k
      · rw [if_pos hsk, if_pos (by omega)]
      · rw [if_neg hsk, if_neg (by omega)]
/-- the step in which this street alone is open, and this much runs -/
def openSt (t : Tst) (s : Nat) (v : Int) : Stp := ⟨((2 ^ t.n - 1 - 2 ^ s : Nat) : Int), ⟨v, v⟩⟩
def atL (L : Int) (o : Option Spn) : Option Spn := o.bind fun a => if a.lo ≤ L ∧ L ≤ a.hi then some ⟨L, L⟩ else none
theorem atL_none (L : Int) : atL L none = none := rfl
theorem cut_one (p : Pr) (L : Int) : (if ({ p with a := cutS p.a ⟨L, L⟩ } : Pr).can = true then some (cutS p.a ⟨L, L⟩) else none) = atL L (if p.can = true then some p.a else none) := by
  rcases p with ⟨⟨a0, a1⟩, ⟨b0, b1⟩, ⟨c0, c1⟩⟩
  by_cases h : (⟨⟨a0, a1⟩, ⟨b0, b1⟩, ⟨c0, c1⟩⟩ : Pr).can = true
  · rw [if_pos h]
    rw [can_iff] at h
    by_cases hL : a0 ≤ L ∧ L ≤ a1
    · rw [if_pos (can_iff.2 (by simp only [cutS] at *; omega))]
      show _ = if _ then _ else _
      rw [if_pos hL]
      simp only [cutS, Option.some.injEq, Spn.mk.injEq]; omega
    · rw [if_neg (fun h9 => by rw [can_iff] at h9; simp only [cutS] at *; omega)]
      show _ = if _ then _ else _
      rw [if_neg hL]
  · rw [if_neg h, if_neg (fun h9 => h (by rw [can_iff] at *; simp only [cutS] at *; omega))]
    rfl
theorem cut_fst (p : Pr) (L : Int) : (if (Pr.narrow { p with a := cutS p.a ⟨L, L⟩ }).can = true then some (Pr.narrow { p with a := cutS p.a ⟨L, L⟩ }).a else none) = atL L (if p.narrow.can = true then some p.narrow.a else none) := by
  rcases p with ⟨⟨a0, a1⟩, ⟨b0, b1⟩, ⟨c0, c1⟩⟩
  by_cases h : (Pr.narrow ⟨⟨a0, a1⟩, ⟨b0, b1⟩, ⟨c0, c1⟩⟩).can = true
  · rw [if_pos h]
    rw [can_iff] at h
    simp only [Pr.narrow, cutS] at h
    by_cases hL : max a0 (c0 - b1) ≤ L ∧ L ≤ min a1 (c1 - b0)
    · rw [if_pos (can_iff.2 (by simp only [Pr.narrow, cutS]; omega))]
      show _ = if _ then _ else _
      rw [if_pos (by simpa only [Pr.narrow, cutS] using hL)]
      simp only [Pr.narrow, cutS, Option.some.injEq, Spn.mk.injEq]; omega
    · rw [if_neg (fun h9 => by rw [can_iff] at h9; simp only [Pr.narrow, cutS] at h9; omega)]
      show _ = if _ then _ else _
      rw [if_neg (by simpa only [Pr.narrow, cutS] using hL)]
  · rw [if_neg h, if_neg (fun h9 => h (by rw [can_iff] at *; simp only [Pr.narrow, cutS] at *; omega))]
    rfl
theorem cut_snd (p : Pr) (L : Int) : (if (Pr.narrow { p with b := cutS p.b ⟨L, L⟩ }).can = true then some (Pr.narrow { p with b := cutS p.b ⟨L, L⟩ }).b else none) = atL L (if p.narrow.can = true then some p.narrow.b else none) := by
  rcases p with ⟨⟨a0, a1⟩, ⟨b0, b1⟩, ⟨c0, c1⟩⟩
  by_cases h : (Pr.narrow ⟨⟨a0, a1⟩, ⟨b0, b1⟩, ⟨c0, c1⟩⟩).can = true
  · rw [if_pos h]
    rw [can_iff] at h
    simp only [Pr.narrow, cutS] at h
    by_cases hL : max b0 (c0 - a1) ≤ L ∧ L ≤ min b1 (c1 - a0)
    · rw [if_pos (can_iff.2 (by simp only [Pr.narrow, cutS]; omega))]
      show _ = if _ then _ else _
      rw [if_pos (by simpa only [Pr.narrow, cutS] using hL)]
      simp only [Pr.narrow, cutS, Option.some.injEq, Spn.mk.injEq]; omega
    · rw [if_neg (fun h9 => by rw [can_iff] at h9; simp only [Pr.narrow, cutS] at h9; omega)]
      show _ = if _ then _ else _
      rw [if_neg (by simpa only [Pr.narrow, cutS] using hL)]
  · rw [if_neg h, if_neg (fun h9 => h (by rw [can_iff] at *; simp only [Pr.narrow, cutS] at *; omega))]
    rfl
/-- what a set says, from what its steps leave -/
theorem cont_eq (t : Tst) (s x : Nat) : cont t s x = if t.leaks < (sizeN x : Int) then none else if hasB x s = true then (gK t x t.m).bind (fun p => if (narrowI x p).can = true then some (spanAt x (narrowI x p) s) else none) else none := by
  unfold cont gR
  by_cases h : t.leaks < (sizeN x : Int)
  · rw [if_pos h, if_pos h]
  · rw [if_neg h, if_neg h]
    cases hg : gK t x t.m with
    | none => simp
    | some p =>
      simp only [Option.bind_some]
      by_cases hc : (narrowI x p).can = true
      · rw [if_pos hc, if_pos hc]
      · rw [if_neg hc, if_neg hc]; simp
theorem rest_open {t : Tst} {s : Nat} {L : Int} (hn : t.n ≤ 10) (hs : s < t.n) (hu : (t.u s).hi = (t.u s).lo) : (t.rich (openSt t s (L + (t.u s).lo))).rest t.m = ⟨((2 ^ t.n - 1 - 2 ^ s : Nat) : Int), ⟨L, L⟩⟩ := by
  unfold Tst.rest
  have e : (t.rich (openSt t s (L + (t.u s).lo))).s t.m = openSt t s (L + (t.u s).lo) := if_neg (by omega)
  rw [e]
  show (⟨((2 ^ t.n - 1 - 2 ^ s : Nat) : Int), leftK t.u ⟨L + (t.u s).lo, L + (t.u s).lo⟩ (Int.toNat ((2 ^ t.n - 1 - 2 ^ s : Nat) : Int)) t.n⟩ : Stp) = _
  rw [Int.toNat_natCast, left_one hn hs hu t.n (Nat.le_refl _), if_pos hs]
  have : L + (t.u s).lo - (t.u s).lo = L := by omega
  rw [this]
theorem cont_open {t : Tst} (hk : t.Ok) {s : Nat} (hs : s < t.n) (hu : (t.u s).hi = (t.u s).lo) (L : Int) {x : Nat} (hx : x < 2 ^ t.n) : cont (t.rich (openSt t s (L + (t.u s).lo))) s x = atL L (cont t s x) := by
  have hn2 := hk.n2
  have h10 := pow_ten hn2
  have hl1 := hk.l1
  rw [cont_eq, cont_eq]
  show (if t.leaks < (sizeN x : Int) then _ else _) = _
  by_cases h : t.leaks < (sizeN x : Int)
  · rw [if_pos h, if_pos h]; rfl
  · rw [if_neg h, if_neg h]
    by_cases hb9 : ¬ hasB x s = true
    · rw [if_neg hb9, if_neg hb9]; rfl
    have hb : hasB x s = true := Classical.not_not.1 hb9
    clear hb9
    rw [if_pos hb, if_pos hb]
    show ((gK (t.rich (openSt t s (L + (t.u s).lo))) x t.m).bind (cutO x ((t.rich (openSt t s (L + (t.u s).lo))).rest t.m))).bind _ = _
    rw [gK_rich t _ x t.m (Nat.le_refl _), rest_open hn2 hs hu]
    cases hg : gK t x t.m with
    | none => rfl
    | some p =>
      simp only [Option.bind_some]
      have hsh : ∀ k, k < t.n → hasB (2 ^ t.n - 1 - 2 ^ s) k = !decide (k = s) := fun k hk9 => shut_one hn2 hs hk9
      have hT : (⟨((2 ^ t.n - 1 - 2 ^ s : Nat) : Int), ⟨L, L⟩⟩ : Stp).shut.toNat = 2 ^ t.n - 1 - 2 ^ s := Int.toNat_natCast _
      rcases few (x := x) (by omega) (by omega) with rfl | ⟨i, hi, rfl⟩ | ⟨i, j, hi, hj, hij, rfl⟩
      · rw [zero_st.2.2 s (by omega)] at hb; cases hb
      · obtain ⟨-, hst, hsz, hbb⟩ := one_st hi
        rw [hbb s (by omega)] at hb
        obtain rfl : s = i := by simpa using hb
        have hop : opSt (2 ^ t.n - 1 - 2 ^ s) [s] = (1, 0) := by rw [op_one, hsh s hs]; simp
        have e : cutO (2 ^ s) ⟨((2 ^ t.n - 1 - 2 ^ s : Nat) : Int), ⟨L, L⟩⟩ p = some { p with a := cutS p.a ⟨L, L⟩ } := by
          unfold cutO
          rw [hT, hst, hop]
          rfl
        have en : ∀ q, narrowI (2 ^ s) q = q := fun q => by unfold narrowI; rw [hsz, if_neg (by omega)]
        rw [e]
        simp only [Option.bind_some, en, span_a _ hst]
        exact cut_one p L
      · obtain ⟨-, hst, hsz, hbb⟩ := two_st hi hj hij
        rw [hbb s (by omega)] at hb
        have en : ∀ q, narrowI (2 ^ i + 2 ^ j) q = q.narrow := fun q => by unfold narrowI; rw [hsz, if_pos rfl]
        have hjn : j < t.n := pow_lt_of (Nat.lt_of_le_of_lt (Nat.le_add_left _ _) hx)
        by_cases hsi : s = i
        · subst hsi
          have hop : opSt (2 ^ t.n - 1 - 2 ^ s) [s, j] = (1, 0) := by
            rw [op_two, hsh s hs, hsh j hjn]
            have : decide (j = s) = false := decide_eq_false (by omega)
            rw [this]; simp
          have e : cutO (2 ^ s + 2 ^ j) ⟨((2 ^ t.n - 1 - 2 ^ s : Nat) : Int), ⟨L, L⟩⟩ p = some { p with a := cutS p.a ⟨L, L⟩ } := by
            unfold cutO
            rw [hT, hst, hop]
            rfl
          rw [e]
          simp only [Option.bind_some, en, span_a _ hst]
          exact cut_fst p L
        · obtain rfl : s = j := by simp [hsi] at hb; exact hb
          have hop : opSt (2 ^ t.n - 1 - 2 ^ s) [i, s] = (1, 1) := by
            rw [op_two, hsh s hs, hsh i (by omega)]
            have : decide (i = s) = false := decide_eq_false (by omega)
            rw [this]; simp
          have e : cutO (2 ^ i + 2 ^ s) ⟨((2 ^ t.n - 1 - 2 ^ s : Nat) : Int), ⟨L, L⟩⟩ p = some { p with b := cutS p.b ⟨L, L⟩ } := by
            unfold cutO
            rw [hT, hst, hop]
            rfl
          rw [e]
          simp only [Option.bind_some, en, span_b _ hst (Ne.symm hsi)]
          exact cut_snd p L
/-- what the verdict says of a street is the hull of what the sets say -/
theorem verd_hull {t : Tst} (hk : t.Ok) {s : Nat} (hs : s < t.n) : OptHull (fun a => ∃ x, x < 2 ^ t.n ∧ cont t s x = some a) (if hasB (verd t).can s then some ((verd t).leaks s) else none) := by
  have h10 := pow_ten hk.n2
  have h := prog_fold hk (s := s) (by have := hk.n2; omega) h10
  have e : (verdF t (gL t (2 ^ t.n))) = verd t := rfl
  rw [e] at h
  rw [h]
  have h2 := foldO_hull none (cont t s) (2 ^ t.n)
  have e2 : (fun a => (none : Option Spn) = some a ∨ ∃ x, x < 2 ^ t.n ∧ cont t s x = some a) = fun a => ∃ x, x < 2 ^ t.n ∧ cont t s x = some a := by
    funext a; simp
  rw [e2] at h2
  exact h2
theorem cont_can {t : Tst} {s x : Nat} {a : Spn} (h : cont t s x = some a) : a.lo ≤ a.hi := by
  unfold cont at h
  split at h
  · cases h
  · rename_i p hp
    split at h
    · cases h
      have hc : p.can = true := by
        unfold gR at hp
        split at hp
        · cases hp
        · cases hg : gK t x t.m with
          | none => rw [hg] at hp; cases hp
          | some q =>
            rw [hg] at hp
            simp only [Option.bind_some] at hp
            split at hp
            · cases hp; assumption
            · cases hp
      rw [can_iff] at hc
      unfold spanAt
      split <;> omega
    · cases h
def Tst.exact (t : Tst) (s : Nat) : Tst := { t with u := fun i => if i = s then ⟨(t.u i).lo, (t.u i).lo⟩ else t.u i }
theorem exact_hi (t : Tst) (s : Nat) : ((t.exact s).u s).hi = ((t.exact s).u s).lo := by
  show (if s = s then (⟨(t.u s).lo, (t.u s).lo⟩ : Spn) else t.u s).hi = (if s = s then (⟨(t.u s).lo, (t.u s).lo⟩ : Spn) else t.u s).lo
  rw [if_pos rfl]
theorem exact_lo (t : Tst) (s : Nat) : ((t.exact s).u s).lo = (t.u s).lo := by
  show (if s = s then (⟨(t.u s).lo, (t.u s).lo⟩ : Spn) else t.u s).lo = _
  rw [if_pos rfl]
theorem Spn.sub_trans {a b c : Spn} (h : a.sub b) (h2 : b.sub c) : a.sub c := by unfold Spn.sub at *; omega
theorem Pr.sub_trans {a b c : Pr} (h : a.Sub b) (h2 : b.Sub c) : a.Sub c := ⟨Spn.sub_trans h.a h2.a, Spn.sub_trans h.b h2.b, Spn.sub_trans h.c h2.c⟩
theorem gK_le (t : Tst) (x : Nat) : ∀ k p, gK t x k = some p → p.Sub (anyP t.least)
  | 0, p, h => by cases h; exact Pr.sub_refl _
  | k + 1, p, h => by
    have h9 : (gK t x k).bind (cutO x (t.rest k)) = some p := h
    cases hg : gK t x k with
    | none => rw [hg] at h9; cases h9
    | some q =>
      rw [hg] at h9
      exact Pr.sub_trans (cutO_le h9) (gK_le t x k q hg)
theorem narrow_le (x : Nat) (p : Pr) : (narrowI x p).Sub p := by
  unfold narrowI
  split
  · exact ⟨cutS_le _ _, cutS_le _ _, Spn.sub_refl _⟩
  · exact Pr.sub_refl _
theorem cont_least {t : Tst} {s x : Nat} {a : Spn} (h : cont t s x = some a) : t.least ≤ a.lo ∧ a.hi ≤ 1073741824 := by
  rw [cont_eq] at h
  split at h
  · cases h
  · split at h
    · cases hg : gK t x t.m with
      | none => rw [hg] at h; cases h
      | some p =>
        rw [hg] at h
        simp only [Option.bind_some] at h
        split at h
        · cases h
          have h1 := Pr.sub_trans (narrow_le x p) (gK_le t x _ _ hg)
          have ha := h1.a
          have hb := h1.b
          unfold spanAt
          split
          · exact ha
          · exact hb
        · cases h
    · cases h
theorem leakErr_zero {t : Tst} {k : Int} : t.leakErr k = 0 ↔ t.valid = true ∧ withinB k 0 ((t.n : Int) - 1) = true ∧ t.fitB = true ∧ hasB (verd t).can k.toNat = true := by
  unfold Tst.leakErr
  cases t.valid <;> cases withinB k 0 ((t.n : Int) - 1) <;> cases t.fitB <;> cases hasB (verd t).can k.toNat <;> simp
theorem leakErr_hull {t : Tst} {s : Nat} (hs : s < t.n) (h : t.leakErr s = 0) : IsHull (fun a => ∃ x, x < 2 ^ t.n ∧ cont t s x = some a) (t.leakR s) := by
  obtain ⟨hv, -, -, hc⟩ := leakErr_zero.1 h
  have hk := Tst.ok hv
  have := verd_hull hk hs
  rw [Int.toNat_natCast] at hc
  rw [hc] at this
  unfold Tst.leakR
  rw [if_pos h, Int.toNat_natCast]
  exact this
theorem leak_facts {t : Tst} {s : Nat} (hs : s < t.n) (h : t.leakErr s = 0) : t.valid = true ∧ (t.leakR s).lo ≤ (t.leakR s).hi ∧ t.least ≤ (t.leakR s).lo ∧ (t.leakR s).hi ≤ 1073741824 := by
  have hh := leakErr_hull hs h
  obtain ⟨a, ⟨x, hx, ha⟩, e⟩ := hh.lo
  obtain ⟨b, ⟨y, hy, hb⟩, e2⟩ := hh.hi
  have h1 := cont_least ha
  have h2 := cont_can ha
  have h3 := hh.le a ⟨x, hx, ha⟩
  have h4 := cont_least hb
  refine ⟨(leakErr_zero.1 h).1, by omega, by omega, by omega⟩
theorem open_valid {t : Tst} (hv : t.valid = true) {s : Nat} (hs : s < t.n) (hm : t.m < 12) {v : Int} (h0 : 0 ≤ v) (h1 : v ≤ 1073741824) : (t.rich (openSt t s v)).valid = true := by
  simp only [Tst.valid, Bool.and_eq_true, Bool.not_eq_true'] at hv ⊢
  obtain ⟨h2, h3, h4⟩ := hv
  refine ⟨?_, h3, ?_⟩
  · rw [head_iff] at *
    obtain ⟨p1, p2, p3, p4⟩ := h2
    exact ⟨p1, p2, p3, by show t.m + 1 ≤ 12; omega⟩
  · show anyB (t.m + 1) (fun i => badS (top t.n) ((t.rich (openSt t s v)).s i)) = false
    rw [anyB_succ]
    have e1 : (t.rich (openSt t s v)).s t.m = openSt t s v := if_neg (by omega)
    rw [e1]
    have e2 : anyB t.m (fun i => badS (top t.n) ((t.rich (openSt t s v)).s i)) = anyB t.m (fun i => badS (top t.n) (t.s i)) := by
      rw [Bool.eq_iff_iff, anyB_iff, anyB_iff]
      constructor
      · rintro ⟨i, hi, h⟩
        have e : (t.rich (openSt t s v)).s i = t.s i := if_pos hi
        rw [e] at h; exact ⟨i, hi, h⟩
      · rintro ⟨i, hi, h⟩
        have e : (t.rich (openSt t s v)).s i = t.s i := if_pos hi
        exact ⟨i, hi, by rw [e]; exact h⟩
    rw [e2, h4]
    have hp : 2 ^ s ≤ 2 ^ t.n - 1 := by
      have := (Nat.pow_lt_pow_iff_right (a := 2) (by omega)).2 hs
      omega
    have hp2 := Nat.two_pow_pos t.n
    have e3 : withinB (openSt t s v).shut 0 (top t.n) = true := by
      refine within_yes ?_
      show 0 ≤ ((2 ^ t.n - 1 - 2 ^ s : Nat) : Int) ∧ ((2 ^ t.n - 1 - 2 ^ s : Nat) : Int) ≤ ((2 ^ t.n : Nat) : Int) - 1
      have q : ∀ N M : Nat, 0 < N → 0 ≤ ((N - 1 - M : Nat) : Int) ∧ ((N - 1 - M : Nat) : Int) ≤ (N : Int) - 1 := fun N M h => by omega
      exact q _ _ hp2
    have e4 : litB (openSt t s v).flow = true := by
      have q : ∀ b : Spn, 0 ≤ b.lo ∧ b.lo ≤ b.hi ∧ b.hi ≤ 1073741824 → litB b = true := fun b hb => by
        simp only [litB, spanB, decide_eq_true_eq]
        omega
      exact q ⟨v, v⟩ ⟨h0, Int.le_refl _, h1⟩
    unfold badS
    rw [e3, e4]; rfl
theorem open_none {t : Tst} (hv : t.valid = true) {s : Nat} (hs : s < t.n) (hu : (t.u s).hi = (t.u s).lo) {L : Int} (hL : ∀ x a, x < 2 ^ t.n → cont t s x = some a → ¬ (a.lo ≤ L ∧ L ≤ a.hi)) : (t.rich (openSt t s (L + (t.u s).lo))).leakErr s ≠ 0 := fun h => by
  have hh := leakErr_hull (t := t.rich (openSt t s (L + (t.u s).lo))) hs h
  obtain ⟨a, ⟨x, hx, ha⟩, -⟩ := hh.lo
  have hx : x < 2 ^ t.n := hx
  rw [cont_open (Tst.ok hv) hs hu L hx] at ha
  cases hc : cont t s x with
  | none => rw [hc] at ha; cases ha
  | some b =>
    rw [hc] at ha
    have h9 : (if b.lo ≤ L ∧ L ≤ b.hi then some (⟨L, L⟩ : Spn) else none) = some a := ha
    rw [if_neg (hL x b hx hc)] at h9
    cases h9
theorem open_some {t : Tst} (hv : t.valid = true) {s : Nat} (hs : s < t.n) (hm : t.m < 12) (hu : (t.u s).hi = (t.u s).lo) {L : Int} (h0 : 0 ≤ L + (t.u s).lo) (h1 : L + (t.u s).lo ≤ 1073741824) {x : Nat} {a : Spn} (hx : x < 2 ^ t.n) (ha : cont t s x = some a) (hL : a.lo ≤ L ∧ L ≤ a.hi) :
    (t.rich (openSt t s (L + (t.u s).lo))).leakErr s = 0 ∧ (t.rich (openSt t s (L + (t.u s).lo))).leakR s = ⟨L, L⟩ := by
  have hv2 := open_valid hv hs hm h0 h1
  have hk := Tst.ok hv
  have hk2 := Tst.ok hv2
  have hh := verd_hull (t := t.rich (openSt t s (L + (t.u s).lo))) hk2 hs
  have hc : cont (t.rich (openSt t s (L + (t.u s).lo))) s x = some ⟨L, L⟩ := by
    rw [cont_open hk hs hu L hx, ha]
    show (if a.lo ≤ L ∧ L ≤ a.hi then some (⟨L, L⟩ : Spn) else none) = _
    rw [if_pos hL]
  have hcan : hasB (verd (t.rich (openSt t s (L + (t.u s).lo)))).can s = true := by
    cases h9 : hasB (verd (t.rich (openSt t s (L + (t.u s).lo)))).can s
    · rw [h9] at hh
      exact absurd ⟨x, hx, hc⟩ (hh ⟨L, L⟩)
    · rfl
  have hfit : (t.rich (openSt t s (L + (t.u s).lo))).fitB = true := fit_iff.2 ⟨x, hx, by
    unfold cont at hc
    split at hc
    · cases hc
    · rename_i p hp; rw [hp]; rfl⟩
  have he : (t.rich (openSt t s (L + (t.u s).lo))).leakErr s = 0 := leakErr_zero.2 ⟨hv2, by
    simp only [withinB, decide_eq_true_eq]
    show 0 ≤ (s : Int) ∧ (s : Int) ≤ (t.n : Int) - 1
    omega, hfit, by rw [Int.toNat_natCast]; exact hcan⟩
  refine ⟨he, ?_⟩
  have hh2 := leakErr_hull (t := t.rich (openSt t s (L + (t.u s).lo))) hs he
  have hall : ∀ b, (∃ y, y < 2 ^ t.n ∧ cont (t.rich (openSt t s (L + (t.u s).lo))) s y = some b) → b = ⟨L, L⟩ := by
    rintro b ⟨y, hy, hb⟩
    rw [cont_open hk hs hu L hy] at hb
    cases hd : cont t s y with
    | none => rw [hd] at hb; cases hb
    | some d =>
      rw [hd] at hb
      have h9 : (if d.lo ≤ L ∧ L ≤ d.hi then some (⟨L, L⟩ : Spn) else none) = some b := hb
      split at h9
      · cases h9; rfl
      · cases h9
  obtain ⟨b, hb, e⟩ := hh2.lo
  obtain ⟨d, hd, e2⟩ := hh2.hi
  have q1 := hall b hb
  have q2 := hall d hd
  rw [q1] at e
  rw [q2] at e2
  generalize (t.rich (openSt t s (L + (t.u s).lo))).leakR s = r at e e2 ⊢
  cases r
  simp only at e e2
  simp only [Spn.mk.injEq]
  omega
/-- the law of StepEnds -/
theorem ends_law {t : Tst} {s : Nat} (hs : s < t.n) (hm : t.m < 12) (hu : (t.u s).hi = (t.u s).lo) (h : t.leakErr s = 0) (hmax : (t.leakR s).hi + (t.u s).lo < 1073741824) :
    ((t.rich (openSt t s ((t.leakR s).lo + (t.u s).lo))).leakErr s = 0 ∧ (t.rich (openSt t s ((t.leakR s).lo + (t.u s).lo))).leakR s = ⟨(t.leakR s).lo, (t.leakR s).lo⟩) ∧
    ((t.rich (openSt t s ((t.leakR s).hi + (t.u s).lo))).leakErr s = 0 ∧ (t.rich (openSt t s ((t.leakR s).hi + (t.u s).lo))).leakR s = ⟨(t.leakR s).hi, (t.leakR s).hi⟩) ∧
    (t.rich (openSt t s ((t.leakR s).lo - 1 + (t.u s).lo))).leakErr s ≠ 0 ∧ (t.rich (openSt t s ((t.leakR s).hi + 1 + (t.u s).lo))).leakErr s ≠ 0 := by
  obtain ⟨hv, h1, h2, h3⟩ := leak_facts hs h
  have hk := Tst.ok hv
  have he0 := hk.e0
  have hu0 : 0 ≤ (t.u s).lo := by have := hk.u s hs; simp only [litB, spanB, decide_eq_true_eq] at this; omega
  have hh := leakErr_hull hs h
  obtain ⟨a, ⟨x, hx, ha⟩, e⟩ := hh.lo
  obtain ⟨b, ⟨y, hy, hb⟩, e2⟩ := hh.hi
  have c1 := cont_can ha
  have c2 := cont_can hb
  have q1 := hh.le a ⟨x, hx, ha⟩
  have q2 := hh.le b ⟨y, hy, hb⟩
  refine ⟨open_some hv hs hm hu (by omega) (by omega) hx ha (by omega), open_some hv hs hm hu (by omega) (by omega) hy hb (by omega), open_none hv hs hu fun z c hz hc => ?_, open_none hv hs hu fun z c hz hc => ?_⟩
  · have := hh.le c ⟨z, hz, hc⟩; omega
  · have := hh.le c ⟨z, hz, hc⟩; omega
end Go.Proofs.YtmeeknmjhlfnaaaDoor
