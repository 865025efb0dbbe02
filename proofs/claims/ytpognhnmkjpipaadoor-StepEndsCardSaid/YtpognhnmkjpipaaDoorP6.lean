/- What all sets that fit say of a street is what the document's leak says; plain, no program in sight. -/
import Derived.Test.YtpognhnmkjpipaaDoorP5
namespace Go.Proofs.YtpognhnmkjpipaaDoor
/-- the least span that contains all of these -/
structure IsHull (S : Spn → Prop) (h : Spn) : Prop where
  lo : ∃ a, S a ∧ a.lo = h.lo
  hi : ∃ a, S a ∧ a.hi = h.hi
  le : ∀ a, S a → h.lo ≤ a.lo ∧ a.hi ≤ h.hi
def OptHull (S : Spn → Prop) : Option Spn → Prop
  | none => ∀ a, ¬ S a
  | some h => IsHull S h
theorem OptHull.unique {S S' : Spn → Prop} {o o' : Option Spn} (h : OptHull S o) (h' : OptHull S' o') (hs : ∀ a, S a ↔ S' a) : o = o' := by
  cases o with
  | none =>
    cases o' with
    | none => rfl
    | some b =>
      obtain ⟨a, ha, -⟩ := h'.lo
      exact absurd ((hs a).2 ha) (h a)
  | some b =>
    cases o' with
    | none =>
      obtain ⟨a, ha, -⟩ := h.lo
      exact absurd ((hs a).1 ha) (h' a)
    | some c =>
      have h : IsHull S b := h
      have h' : IsHull S' c := h'
      obtain ⟨a1, s1, e1⟩ := h.lo
      obtain ⟨a2, s2, e2⟩ := h.hi
      obtain ⟨a3, s3, e3⟩ := h'.lo
      obtain ⟨a4, s4, e4⟩ := h'.hi
      have q1 := h'.le a1 ((hs _).1 s1)
      have q2 := h'.le a2 ((hs _).1 s2)
      have q3 := h.le a3 ((hs _).2 s3)
      have q4 := h.le a4 ((hs _).2 s4)
      cases b; cases c
      simp only [Option.some.injEq, Spn.mk.injEq] at *
      omega
theorem OptHull.add {S : Spn → Prop} {o : Option Spn} (h : OptHull S o) (x : Option Spn) : OptHull (fun a => S a ∨ x = some a) (addO o x) := by
  cases x with
  | none =>
    have e : (fun a => S a ∨ (none : Option Spn) = some a) = S := by funext a; simp
    rw [e]; exact h
  | some b =>
    cases o with
    | none =>
      refine ⟨⟨b, .inr rfl, rfl⟩, ⟨b, .inr rfl, rfl⟩, ?_⟩
      rintro a (ha | ha)
      · exact absurd ha (h a)
      · cases ha; exact ⟨Int.le_refl _, Int.le_refl _⟩
    | some c =>
      have h : IsHull S c := h
      show IsHull _ ⟨min c.lo b.lo, max c.hi b.hi⟩
      obtain ⟨⟨a1, s1, e1⟩, ⟨a2, s2, e2⟩, h3⟩ := h
      refine ⟨?_, ?_, ?_⟩
      · by_cases hb : c.lo ≤ b.lo
        · exact ⟨a1, .inl s1, by dsimp only; omega⟩
        · exact ⟨b, .inr rfl, by dsimp only; omega⟩
      · by_cases hb : b.hi ≤ c.hi
        · exact ⟨a2, .inl s2, by dsimp only; omega⟩
        · exact ⟨b, .inr rfl, by dsimp only; omega⟩
      · rintro a (ha | ha)
        · have := h3 a ha; dsimp only; omega
        · cases ha; dsimp only; omega
def foldO (o : Option Spn) (f : Nat → Option Spn) : Nat → Option Spn
  | 0 => o
  | k + 1 => addO (foldO o f k) (f k)
theorem foldO_hull (o : Option Spn) (f : Nat → Option Spn) : ∀ k, OptHull (fun a => o = some a ∨ ∃ x, x < k ∧ f x = some a) (foldO o f k)
  | 0 => by
    cases o with
    | none => rintro a (h | ⟨x, hx, -⟩); cases h; omega
    | some b => exact ⟨⟨b, .inl rfl, rfl⟩, ⟨b, .inl rfl, rfl⟩, by rintro a (h | ⟨x, hx, -⟩); cases h; exact ⟨Int.le_refl _, Int.le_refl _⟩; omega⟩
  | k + 1 => by
    have hq := (foldO_hull o f k).add (f k)
    have e : (fun a => (o = some a ∨ ∃ x, x < k ∧ f x = some a) ∨ f k = some a) = fun a => o = some a ∨ ∃ x, x < k + 1 ∧ f x = some a := by
      funext a
      apply propext
      constructor
      · rintro ((h | ⟨x, hx, h⟩) | h)
        · exact .inl h
        · exact .inr ⟨x, by omega, h⟩
        · exact .inr ⟨k, by omega, h⟩
      · rintro (h | ⟨x, hx, h⟩)
        · exact .inl (.inl h)
        · by_cases hxk : x = k
          · subst hxk; exact .inr h
          · exact .inl (.inr ⟨x, by omega, h⟩)
    rw [e] at hq
    exact hq
/-- what a set says of a street -/
def spanAt (x : Nat) (p : Pr) (s : Nat) : Spn := if (stL x).head? = some s then p.a else p.b
theorem span_a {x s : Nat} {r : List Nat} (p : Pr) (h : stL x = s :: r) : spanAt x p s = p.a := by
  unfold spanAt
  rw [if_pos (by rw [h]; rfl)]
theorem span_b {x i s : Nat} {r : List Nat} (p : Pr) (h : stL x = i :: r) (hne : i ≠ s) : spanAt x p s = p.b := by
  unfold spanAt
  rw [if_neg (by rw [h]; simpa using hne)]
def cont (t : Tst) (s x : Nat) : Option Spn := match gR t x with
  | none => none
  | some p => if hasB x s then some (spanAt x p s) else none
theorem hasB_or (a b s : Nat) : hasB (a ||| b) s = (hasB a s || hasB b s) := by rw [hasB_bit, hasB_bit, hasB_bit, Nat.testBit_or]
theorem hasB_and (a b s : Nat) : hasB (a &&& b) s = (hasB a s && hasB b s) := by rw [hasB_bit, hasB_bit, hasB_bit, Nat.testBit_and]
theorem gR_few {t : Tst} (hk : t.Ok) {x : Nat} {p : Pr} (hx : x < 1024) (h : gR t x = some p) : x = 0 ∨ (∃ i, i < 10 ∧ x = 2 ^ i) ∨ ∃ i j, i < 10 ∧ j < 10 ∧ i < j ∧ x = 2 ^ i + 2 ^ j := by
  have h1 := gR_size h
  have h2 := hk.l1
  exact few hx (by omega)
/-- one set is taken in -/
theorem add_at {t : Tst} (hk : t.Ok) {x : Nat} {p : Pr} (hx : x < 1024) (h : gR t x = some p) (v : Vd) {s : Nat} (hs : s < 10) :
    (if hasB (v.add ⟨p, x⟩).can s then some ((v.add ⟨p, x⟩).leaks s) else none) = addO (if hasB v.can s then some (v.leaks s) else none) (if hasB x s then some (spanAt x p s) else none) := by
  have ec : (v.add ⟨p, x⟩).can = v.can ||| x := rfl
  have el : (v.add ⟨p, x⟩).leaks = (leaksK ⟨p, x⟩ v.can v.leaks (stL x)).2 := rfl
  rw [ec, el, hasB_or]
  rcases gR_few hk hx h with rfl | ⟨i, hi, rfl⟩ | ⟨i, j, hi, hj, hij, rfl⟩
  · rw [zero_st.2.2 s hs, zero_st.1]
    simp only [Bool.or_false, Bool.false_eq_true, if_false]
    rfl
  · obtain ⟨-, hst, -, hb⟩ := one_st hi
    rw [hb s hs, hst]
    have e1 : (leaksK ⟨p, 2 ^ i⟩ v.can v.leaks [i]).2 = leak1 ⟨p, 2 ^ i⟩ v.can v.leaks 0 i := rfl
    rw [e1]
    unfold leak1
    by_cases hsi : s = i
    · subst hsi
      rw [span_a p hst]
      simp only [decide_true, Bool.or_true, if_true]
      cases hasB v.can s
      · rfl
      · simp only [addO, spOf, addS, if_true, Option.getD_some, Option.isSome_some]
        rw [Int.min_comm, Int.max_comm]
    · rw [decide_eq_false hsi]
      simp only [Bool.or_false, Bool.false_eq_true, if_false]
      rw [if_neg hsi]; rfl
  · obtain ⟨-, hst, -, hb⟩ := two_st hi hj hij
    rw [hb s hs, hst]
    have e1 : (leaksK ⟨p, 2 ^ i + 2 ^ j⟩ v.can v.leaks [i, j]).2 = leak1 ⟨p, 2 ^ i + 2 ^ j⟩ v.can (leak1 ⟨p, 2 ^ i + 2 ^ j⟩ v.can v.leaks 0 i) 1 j := rfl
    rw [e1]
    unfold leak1
    by_cases hsi : s = i
    · subst hsi
      have hne : s ≠ j := by omega
      rw [span_a p hst]
      simp only [decide_true, Bool.or_true, Bool.true_or, if_true]
      rw [if_neg hne]
      cases hasB v.can s
      · rfl
      · simp only [addO, spOf, addS, if_true, Option.getD_some, Option.isSome_some]
        rw [Int.min_comm, Int.max_comm]
    · rw [decide_eq_false hsi]
      by_cases hsj : s = j
      · subst hsj
        rw [span_b p hst (Ne.symm hsi)]
        simp only [decide_true, Bool.or_true, if_true]
        rw [if_neg hsi]
        cases hasB v.can s
        · rfl
        · simp only [addO, spOf, addS, if_true, Option.getD_some, Option.isSome_some]
          rw [Int.min_comm, Int.max_comm]; rfl
      · rw [decide_eq_false hsj]
        simp only [Bool.or_false, Bool.false_eq_true, if_false]
        rw [if_neg hsj, if_neg hsi]; rfl
theorem prog_fold {t : Tst} (hk : t.Ok) {s : Nat} (hs : s < 10) : ∀ {k}, k ≤ 1024 → (if hasB (verdF t (gL t k)).can s then some ((verdF t (gL t k)).leaks s) else none) = foldO none (cont t s) k
  | 0, _ => by
    have : hasB (verdF t (gL t 0)).can s = false := zero_st.2.2 s hs
    rw [this]; rfl
  | k + 1, h => by
    have ih := prog_fold hk hs (k := k) (by omega)
    show _ = addO (foldO none (cont t s) k) (cont t s k)
    cases hg : gR t k with
    | none =>
      have ec : cont t s k = none := by unfold cont; rw [hg]
      rw [gL_none hg, ih, ec]; rfl
    | some p =>
      have ec : cont t s k = if hasB k s then some (spanAt k p s) else none := by unfold cont; rw [hg]
      rw [gL_some hg, verdF_snoc, add_at hk (by omega) hg _ hs, ih, ec]
theorem leak_fold (t : Tst) (x : Nat) : ∀ k, leakK t x k = foldO (leakK t x 0) (fun i => if i = x then none else twoR t x i) k
  | 0 => rfl
  | k + 1 => by
    show (if k = x then leakK t x k else addO (leakK t x k) (twoR t x k)) = addO (foldO _ _ k) (if k = x then none else twoR t x k)
    rw [← leak_fold t x k]
    by_cases h : k = x
    · rw [if_pos h, if_pos h]; rfl
    · rw [if_neg h, if_neg h]
theorem pow_two_lt {i j n : Nat} (hij : i < j) (hj : j < n) : 2 ^ i + 2 ^ j < 2 ^ n := by
  have h1 : 2 ^ i < 2 ^ j := Nat.pow_lt_pow_right (by omega) hij
  have h2 : 2 ^ (j + 1) ≤ 2 ^ n := Nat.pow_le_pow_right (by omega) hj
  rw [Nat.pow_succ] at h2
  omega
theorem pow_lt_of {i n : Nat} (h : 2 ^ i < 2 ^ n) : i < n := (Nat.pow_lt_pow_iff_right (by omega)).1 h
theorem cont_iff {t : Tst} (hk : t.Ok) {s : Nat} (hs : s < t.n) (a : Spn) :
    (none = some a ∨ ∃ x, x < 2 ^ t.n ∧ cont t s x = some a) ↔ ((1 ≤ t.leaks ∧ oneR t s = some a) ∨ (2 ≤ t.leaks ∧ ∃ i, i < t.n ∧ i ≠ s ∧ twoR t s i = some a)) := by
  have hn := hk.n2
  have h10 := pow_ten hn
  constructor
  · rintro (h | ⟨x, hx, h⟩)
    · cases h
    · unfold cont at h
      cases hg : gR t x with
      | none => rw [hg] at h; cases h
      | some p =>
        rw [hg] at h
        simp only at h
        rcases gR_few hk (by omega) hg with rfl | ⟨i, hi, rfl⟩ | ⟨i, j, hi, hj, hij, rfl⟩
        · rw [zero_st.2.2 s (by omega)] at h; cases h
        · obtain ⟨-, hst, -, hb⟩ := one_st hi
          rw [hb s (by omega)] at h
          by_cases hsi : s = i
          · subst hsi
            rw [span_a p hst] at h
            simp only [decide_true, if_true, Option.some.injEq] at h
            rw [gR_one hk hi] at hg
            by_cases hl : t.leaks < 1
            · rw [if_pos hl] at hg; cases hg
            · rw [if_neg hl] at hg
              cases ho : oneR t s with
              | none => rw [ho] at hg; cases hg
              | some q => rw [ho] at hg; cases hg; exact .inl ⟨by omega, by rw [← h]⟩
          · rw [decide_eq_false hsi] at h; cases h
        · obtain ⟨-, hst, -, hb⟩ := two_st hi hj hij
          have hjn : j < t.n := pow_lt_of (Nat.lt_of_le_of_lt (Nat.le_add_left _ _) hx)
          rw [hb s (by omega)] at h
          obtain ⟨g0, g1⟩ := gR_two hk hi hj hij
          by_cases hl : t.leaks < 2
          · rw [g0 hl] at hg; cases hg
          · rcases g1 (by omega) with ⟨q, hq, e1, e2⟩ | ⟨hq, -, -⟩
            · rw [hq] at hg
              cases hg
              by_cases hsi : s = i
              · subst hsi
                rw [span_a _ hst] at h
                simp only [decide_true, Bool.true_or, if_true, Option.some.injEq] at h
                exact .inr ⟨by omega, j, hjn, by omega, by rw [e1, h]⟩
              · by_cases hsj : s = j
                · subst hsj
                  rw [span_b _ hst (Ne.symm hsi)] at h
                  simp only [decide_true, Bool.or_true, if_true, Option.some.injEq] at h
                  exact .inr ⟨by omega, i, by omega, by omega, by rw [e2, h]⟩
                · rw [decide_eq_false hsi, decide_eq_false hsj] at h; cases h
            · rw [hq] at hg; cases hg
  · rintro (⟨hl, ho⟩ | ⟨hl, i, hi, hne, ho⟩)
    · refine .inr ⟨2 ^ s, Nat.pow_lt_pow_right (by omega) hs, ?_⟩
      obtain ⟨-, hst, -, hb⟩ := one_st (i := s) (by omega)
      unfold cont
      rw [gR_one hk (by omega), if_neg (by omega), ho, hb s (by omega)]
      simp only [Option.map_some, decide_true, if_true]
      rw [span_a _ hst]
    · rcases Nat.lt_or_ge s i with hsi | hsi
      · obtain ⟨-, hst, -, hb⟩ := two_st (i := s) (j := i) (by omega) (by omega) hsi
        rcases (gR_two hk (i := s) (j := i) (by omega) (by omega) hsi).2 hl with ⟨q, hq, e1, e2⟩ | ⟨-, e1, -⟩
        · refine .inr ⟨2 ^ s + 2 ^ i, pow_two_lt hsi hi, ?_⟩
          unfold cont
          rw [hq, hb s (by omega)]
          rw [e1] at ho
          cases ho
          simp only [decide_true, Bool.true_or, if_true]
          rw [span_a _ hst]
        · rw [e1] at ho; cases ho
      · have hsi : i < s := by omega
        obtain ⟨-, hst, -, hb⟩ := two_st (i := i) (j := s) (by omega) (by omega) hsi
        rcases (gR_two hk (i := i) (j := s) (by omega) (by omega) hsi).2 hl with ⟨q, hq, e1, e2⟩ | ⟨-, -, e2⟩
        · refine .inr ⟨2 ^ i + 2 ^ s, pow_two_lt hsi hs, ?_⟩
          unfold cont
          rw [hq, hb s (by omega)]
          rw [e2] at ho
          cases ho
          simp only [decide_true, Bool.or_true, if_true]
          rw [span_b _ hst hne]
        · rw [e2] at ho; cases ho
theorem leak_hull (t : Tst) (s : Nat) : OptHull (fun a => (1 ≤ t.leaks ∧ oneR t s = some a) ∨ (2 ≤ t.leaks ∧ ∃ i, i < t.n ∧ i ≠ s ∧ twoR t s i = some a)) (leakO t s) := by
  have h0 : ∀ a, leakK t s 0 = some a ↔ (1 ≤ t.leaks ∧ oneR t s = some a) := fun a => by
    show (if 1 ≤ t.leaks then addO none (oneR t s) else none) = some a ↔ _
    by_cases hl : 1 ≤ t.leaks
    · rw [if_pos hl]
      cases oneR t s with
      | none => simp [addO]
      | some b => simp [addO, addS, hl]
    · rw [if_neg hl]; simp [hl]
  unfold leakO
  by_cases hl : 2 ≤ t.leaks
  · rw [if_pos hl, leak_fold]
    have h := foldO_hull (leakK t s 0) (fun i => if i = s then none else twoR t s i) t.n
    have e : (fun a => leakK t s 0 = some a ∨ ∃ x, x < t.n ∧ (if x = s then none else twoR t s x) = some a) = fun a => (1 ≤ t.leaks ∧ oneR t s = some a) ∨ (2 ≤ t.leaks ∧ ∃ i, i < t.n ∧ i ≠ s ∧ twoR t s i = some a) := by
      funext a
      apply propext
      rw [h0]
      constructor
      · rintro (h | ⟨x, hx, h⟩)
        · exact .inl h
        · by_cases hxs : x = s
          · rw [if_pos hxs] at h; cases h
          · rw [if_neg hxs] at h; exact .inr ⟨hl, x, hx, hxs, h⟩
      · rintro (h | ⟨-, x, hx, hxs, h⟩)
        · exact .inl h
        · exact .inr ⟨x, hx, by rw [if_neg hxs]; exact h⟩
    rw [e] at h
    exact h
  · rw [if_neg hl]
    have h := foldO_hull (leakK t s 0) (fun _ => none) 0
    have e : (fun a => leakK t s 0 = some a ∨ ∃ x, x < 0 ∧ (none : Option Spn) = some a) = fun a => (1 ≤ t.leaks ∧ oneR t s = some a) ∨ (2 ≤ t.leaks ∧ ∃ i, i < t.n ∧ i ≠ s ∧ twoR t s i = some a) := by
      funext a
      apply propext
      rw [h0]
      constructor
      · rintro (h | ⟨x, hx, h⟩)
        · exact .inl h
        · omega
      · rintro (h | ⟨h, -⟩)
        · exact .inl h
        · exact absurd h hl
    rw [e] at h
    exact h
/-- the leak of a street -/
theorem leak_eq {t : Tst} (hk : t.Ok) {s : Nat} (hs : s < t.n) : (if hasB (verd t).can s then some ((verd t).leaks s) else none) = leakO t s := by
  have h10 := pow_ten hk.n2
  have hn := hk.n2
  have e : verd t = verdF t (gL t (2 ^ t.n)) := rfl
  rw [e, prog_fold hk (by omega) h10]
  exact (foldO_hull none (cont t s) (2 ^ t.n)).unique (leak_hull t s) (cont_iff hk hs)
end Go.Proofs.YtpognhnmkjpipaaDoor
