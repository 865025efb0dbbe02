/- The sets that fit a test, and what all of them say of a street; plain, no program in sight. -/
import Derived.Test.YtmeeknmjhlfnaaaDoorW15
namespace Go.Proofs.YtmeeknmjhlfnaaaDoor
def addS (a : Spn) (is : Bool) (b : Spn) : Spn := if is then ⟨min a.lo b.lo, max a.hi b.hi⟩ else b
def spOf (o : Option Spn) : Spn := o.getD ⟨0, 0⟩
def addO (acc o : Option Spn) : Option Spn := match o with
  | none => acc
  | some s => some (addS (spOf acc) acc.isSome s)
theorem hasB_bit (x i : Nat) : hasB x i = x.testBit i := by
  unfold hasB
  rw [Nat.testBit_eq_decide_div_mod_eq]
theorem allB_succ (n : Nat) (p : Nat → Bool) : allB (n + 1) p = (allB n p && p n) := by simp [allB, List.range_succ, List.all_append]
theorem anyB_succ (n : Nat) (p : Nat → Bool) : anyB (n + 1) p = (anyB n p || p n) := by simp [anyB, List.range_succ, List.any_append]
theorem few_all : (List.range 1024).all (fun x => decide (2 < sizeN x ∨ x = 0 ∨ ∃ i, i < 10 ∧ (x = 2 ^ i ∨ ∃ j, j < 10 ∧ i < j ∧ x = 2 ^ i + 2 ^ j))) = true := by kernel_rfl
theorem few {x : Nat} (hx : x < 1024) (h : sizeN x ≤ 2) : x = 0 ∨ (∃ i, i < 10 ∧ x = 2 ^ i) ∨ ∃ i j, i < 10 ∧ j < 10 ∧ i < j ∧ x = 2 ^ i + 2 ^ j := by
  rcases of_decide_eq_true (List.all_eq_true.1 few_all x (List.mem_range.2 hx)) with h1 | h1 | ⟨i, hi, h1 | ⟨j, hj, hij, h1⟩⟩
  · omega
  · exact .inl h1
  · exact .inr (.inl ⟨i, hi, h1⟩)
  · exact .inr (.inr ⟨i, j, hi, hj, hij, h1⟩)
theorem one_all : (List.range 10).all (fun i => decide (2 ^ i < 1024 ∧ stL (2 ^ i) = [i] ∧ sizeN (2 ^ i) = 1 ∧ ∀ s, s < 10 → hasB (2 ^ i) s = decide (s = i))) = true := by kernel_rfl
theorem one_st {i : Nat} (hi : i < 10) : 2 ^ i < 1024 ∧ stL (2 ^ i) = [i] ∧ sizeN (2 ^ i) = 1 ∧ ∀ s, s < 10 → hasB (2 ^ i) s = decide (s = i) := of_decide_eq_true (List.all_eq_true.1 one_all i (List.mem_range.2 hi))
theorem two_all : (List.range 10).all (fun i => (List.range 10).all (fun j => decide (i < j → 2 ^ i + 2 ^ j < 1024 ∧ stL (2 ^ i + 2 ^ j) = [i, j] ∧ sizeN (2 ^ i + 2 ^ j) = 2 ∧ ∀ s, s < 10 → hasB (2 ^ i + 2 ^ j) s = (decide (s = i) || decide (s = j))))) = true := by kernel_rfl
theorem two_st {i j : Nat} (hi : i < 10) (hj : j < 10) (hij : i < j) : 2 ^ i + 2 ^ j < 1024 ∧ stL (2 ^ i + 2 ^ j) = [i, j] ∧ sizeN (2 ^ i + 2 ^ j) = 2 ∧ ∀ s, s < 10 → hasB (2 ^ i + 2 ^ j) s = (decide (s = i) || decide (s = j)) :=
  of_decide_eq_true (List.all_eq_true.1 (List.all_eq_true.1 two_all i (List.mem_range.2 hi)) j (List.mem_range.2 hj)) hij
theorem zero_st : stL 0 = [] ∧ sizeN 0 = 0 ∧ ∀ s, s < 10 → hasB 0 s = false := by decide
theorem op_nil (sh : Nat) : opSt sh [] = (0, 0) := rfl
theorem op_one (sh i : Nat) : opSt sh [i] = if hasB sh i then (0, 0) else (1, 0) := by
  unfold opSt
  simp only [List.foldl_cons, List.foldl_nil]
theorem op_two (sh i j : Nat) : opSt sh [i, j] = if hasB sh i then (if hasB sh j then (0, 0) else (1, 1)) else (if hasB sh j then (1, 0) else (2, 1)) := by
  unfold opSt
  simp only [List.foldl_cons, List.foldl_nil]
  cases hasB sh i <;> cases hasB sh j <;> rfl
end Go.Proofs.YtmeeknmjhlfnaaaDoor
namespace Go.Proofs.YtmeeknmjhlfnaaaDoor
theorem can_iff {p : Pr} : p.can = true ↔ p.a.lo ≤ p.a.hi ∧ p.b.lo ≤ p.b.hi ∧ p.c.lo ≤ p.c.hi := by
  unfold Pr.can
  simp
end Go.Proofs.YtmeeknmjhlfnaaaDoor
namespace Go.Proofs.YtmeeknmjhlfnaaaDoor
/-- the least span that contains all of these -/
structure IsHull (S : Spn → Prop) (h : Spn) : Prop where
  lo : ∃ a, S a ∧ a.lo = h.lo
  hi : ∃ a, S a ∧ a.hi = h.hi
  le : ∀ a, S a → h.lo ≤ a.lo ∧ a.hi ≤ h.hi
def OptHull (S : Spn → Prop) : Option Spn → Prop
  | none => ∀ a, ¬ S a
  | some h => IsHull S h
theorem OptHull.unique {S S' : Spn → Prop} {o o' : Option Spn} (h : OptHull S o) (h' : OptHull S' o') (hs : ∀ a, S a ↔ S' a) : o = o' := by
  cases o with
  | none =>
    cases o' with
    | none => rfl
    | some b =>
      obtain ⟨a, ha, -⟩ := h'.lo
      exact absurd ((hs a).2 ha) (h a)
  | some b =>
    cases o' with
    | none =>
      obtain ⟨a, ha, -⟩ := h.lo
      exact absurd ((hs a).1 ha) (h' a)
    | some c =>
      have h : IsHull S b := h
      have h' : IsHull S' c := h'
      obtain ⟨a1, s1, e1⟩ := h.lo
      obtain ⟨a2, s2, e2⟩ := h.hi
      obtain ⟨a3, s3, e3⟩ := h'.lo
      obtain ⟨a4, s4, e4⟩ := h'.hi
      have q1 := h'.le a1 ((hs _).1 s1)
      have q2 := h'.le a2 ((hs _).1 s2)
      have q3 := h.le a3 ((hs _).2 s3)
      have q4 := h.le a4 ((hs _).2 s4)
      cases b; cases c
      simp only [Option.some.injEq, Spn.mk.injEq] at *
      omega
theorem OptHull.add {S : Spn → Prop} {o : Option Spn} (h : OptHull S o) (x : Option Spn) : OptHull (fun a => S a ∨ x = some a) (addO o x) := by
  cases x with
  | none =>
    have e : (fun a => S a ∨ (none : Option Spn) = some a) = S := by funext a; simp
    rw [e]; exact h
  | some b =>
    cases o with
    | none =>
      refine ⟨⟨b, .inr rfl, rfl⟩, ⟨b, .inr rfl, rfl⟩, ?_⟩
      rintro a (ha | ha)
      · exact absurd ha (h a)
      · cases ha; exact ⟨Int.le_refl _, Int.le_refl _⟩
    | some c =>
      have h : IsHull S c := h
      show IsHull _ ⟨min c.lo b.lo, max c.hi b.hi⟩
      obtain ⟨⟨a1, s1, e1⟩, ⟨a2, s2, e2⟩, h3⟩ := h
      refine ⟨?_, ?_, ?_⟩
      · by_cases hb : c.lo ≤ b.lo
        · exact ⟨a1, .inl s1, by dsimp only; omega⟩
        · exact ⟨b, .inr rfl, by dsimp only; omega⟩
      · by_cases hb : b.hi ≤ c.hi
        · exact ⟨a2, .inl s2, by dsimp only; omega⟩
        · exact ⟨b, .inr rfl, by dsimp only; omega⟩
      · rintro a (ha | ha)
        · have := h3 a ha; dsimp only; omega
        · cases ha; dsimp only; omega
def foldO (o : Option Spn) (f : Nat → Option Spn) : Nat → Option Spn
  | 0 => o
  | k + 1 => addO (foldO o f k) (f k)
theorem foldO_hull (o : Option Spn) (f : Nat → Option Spn) : ∀ k, OptHull (fun a => o = some a ∨ ∃ x, x < k ∧ f x = some a) (foldO o f k)
  | 0 => by
    cases o with
    | none => rintro a (h | ⟨x, hx, -⟩); cases h; omega
    | some b => exact ⟨⟨b, .inl rfl, rfl⟩, ⟨b, .inl rfl, rfl⟩, by rintro a (h | ⟨x, hx, -⟩); cases h; exact ⟨Int.le_refl _, Int.le_refl _⟩; omega⟩
  | k + 1 => by
    have hq := (foldO_hull o f k).add (f k)
    have e : (fun a => (o = some a ∨ ∃ x, x < k ∧ f x = some a) ∨ f k = some a) = fun a => o = some a ∨ ∃ x, x < k + 1 ∧ f x = some a := by
      funext a
      apply propext
      constructor
      · rintro ((h | ⟨x, hx, h⟩) | h)
        · exact .inl h
        · exact .inr ⟨x, by omega, h⟩
        · exact .inr ⟨k, by omega, h⟩
      · rintro (h | ⟨x, hx, h⟩)
        · exact .inl (.inl h)
        · by_cases hxk : x = k
          · subst hxk; exact .inr h
          · exact .inl (.inr ⟨x, by omega, h⟩)
    rw [e] at hq
    exact hq
/-- what a set says of a street -/
def spanAt (x : Nat) (p : Pr) (s : Nat) : Spn := if (stL x).head? = some s then p.a else p.b
theorem span_a {x s : Nat} {r : List Nat} (p : Pr) (h : stL x = s :: r) : spanAt x p s = p.a := by
  unfold spanAt
  rw [if_pos (by rw [h]; rfl)]
theorem span_b {x i s : Nat} {r : List Nat} (p : Pr) (h : stL x = i :: r) (hne : i ≠ s) : spanAt x p s = p.b := by
  unfold spanAt
  rw [if_neg (by rw [h]; simpa using hne)]
def cont (t : Tst) (s x : Nat) : Option Spn := match gR t x with
  | none => none
  | some p => if hasB x s then some (spanAt x p s) else none
theorem hasB_or (a b s : Nat) : hasB (a ||| b) s = (hasB a s || hasB b s) := by rw [hasB_bit, hasB_bit, hasB_bit, Nat.testBit_or]
theorem hasB_and (a b s : Nat) : hasB (a &&& b) s = (hasB a s && hasB b s) := by rw [hasB_bit, hasB_bit, hasB_bit, Nat.testBit_and]
theorem gR_few {t : Tst} (hk : t.Ok) {x : Nat} {p : Pr} (hx : x < 1024) (h : gR t x = some p) : x = 0 ∨ (∃ i, i < 10 ∧ x = 2 ^ i) ∨ ∃ i j, i < 10 ∧ j < 10 ∧ i < j ∧ x = 2 ^ i + 2 ^ j := by
  have h1 := gR_size h
  have h2 := hk.l1
  exact few hx (by omega)
/-- one set is taken in -/
theorem add_at {t : Tst} (hk : t.Ok) {x : Nat} {p : Pr} (hx : x < 1024) (h : gR t x = some p) (v : Vd) {s : Nat} (hs : s < 10) :
    (if hasB (v.add ⟨p, x⟩).can s then some ((v.add ⟨p, x⟩).leaks s) else none) = addO (if hasB v.can s then some (v.leaks s) else none) (if hasB x s then some (spanAt x p s) else none) := by
  have ec : (v.add ⟨p, x⟩).can = v.can ||| x := rfl
  have el : (v.add ⟨p, x⟩).leaks = (leaksK ⟨p, x⟩ v.can v.leaks (stL x)).2 := rfl
  rw [ec, el, hasB_or]
  rcases gR_few hk hx h with rfl | ⟨i, hi, rfl⟩ | ⟨i, j, hi, hj, hij, rfl⟩
  · rw [zero_st.2.2 s hs, zero_st.1]
    simp only [Bool.or_false, Bool.false_eq_true, if_false]
    rfl
  · obtain ⟨-, hst, -, hb⟩ := one_st hi
    rw [hb s hs, hst]
    have e1 : (leaksK ⟨p, 2 ^ i⟩ v.can v.leaks [i]).2 = leak1 ⟨p, 2 ^ i⟩ v.can v.leaks 0 i := rfl
    rw [e1]
    unfold leak1
    by_cases hsi : s = i
    · subst hsi
      rw [span_a p hst]
      simp only [decide_true, Bool.or_true, if_true]
      cases hasB v.can s
      · rfl
      · simp only [addO, spOf, addS, if_true, Option.getD_some, Option.isSome_some]
        rw [Int.min_comm, Int.max_comm]
    · rw [decide_eq_false hsi]
      simp only [Bool.or_false, Bool.false_eq_true, if_false]
      rw [if_neg hsi]; rfl
  · obtain ⟨-, hst, -, hb⟩ := two_st hi hj hij
    rw [hb s hs, hst]
    have e1 : (leaksK ⟨p, 2 ^ i + 2 ^ j⟩ v.can v.leaks [i, j]).2 = leak1 ⟨p, 2 ^ i + 2 ^ j⟩ v.can (leak1 ⟨p, 2 ^ i + 2 ^ j⟩ v.can v.leaks 0 i) 1 j := rfl
    rw [e1]
    unfold leak1
    by_cases hsi : s = i
    · subst hsi
      have hne : s ≠ j := by omega
      rw [span_a p hst]
      simp only [decide_true, Bool.or_true, Bool.true_or, if_true]
      rw [if_neg hne]
      cases hasB v.can s
      · rfl
      · simp only [addO, spOf, addS, if_true, Option.getD_some, Option.isSome_some]
        rw [Int.min_comm, Int.max_comm]
    · rw [decide_eq_false hsi]
      by_cases hsj : s = j
      · subst hsj
        rw [span_b p hst (Ne.symm hsi)]
        simp only [decide_true, Bool.or_true, if_true]
        rw [if_neg hsi]
        cases hasB v.can s
        · rfl
        · simp only [addO, spOf, addS, if_true, Option.getD_some, Option.isSome_some]
          rw [Int.min_comm, Int.max_comm]; rfl
      · rw [decide_eq_false hsj]
        simp only [Bool.or_false, Bool.false_eq_true, if_false]
        rw [if_neg hsj, if_neg hsi]; rfl
theorem prog_fold {t : Tst} (hk : t.Ok) {s : Nat} (hs : s < 10) : ∀ {k}, k ≤ 1024 → (if hasB (verdF t (gL t k)).can s then some ((verdF t (gL t k)).leaks s) else none) = foldO none (cont t s) k
  | 0, _ => by
    have : hasB (verdF t (gL t 0)).can s = false := zero_st.2.2 s hs
    rw [this]; rfl
  | k + 1, h => by
    have ih := prog_fold hk hs (k := k) (by omega)
    show _ = addO (foldO none (cont t s) k) (cont t s k)
    cases hg : gR t k with
    | none =>
      have ec : cont t s k = none := by unfold cont; rw [hg]
      rw [gL_none hg, ih, ec]; rfl
    | some p =>
      have ec : cont t s k = if hasB k s then some (spanAt k p s) else none := by unfold cont; rw [hg]
      rw [gL_some hg, verdF_snoc, add_at hk (by omega) hg _ hs, ih, ec]
theorem pow_two_lt {i j n : Nat} (hij : i < j) (hj : j < n) : 2 ^ i + 2 ^ j < 2 ^ n := by
  have h1 : 2 ^ i < 2 ^ j := Nat.pow_lt_pow_right (by omega) hij
  have h2 : 2 ^ (j + 1) ≤ 2 ^ n := Nat.pow_le_pow_right (by omega) hj
  rw [Nat.pow_succ] at h2
  omega
theorem pow_lt_of {i n : Nat} (h : 2 ^ i < 2 ^ n) : i < n := (Nat.pow_lt_pow_iff_right (by omega)).1 h
end Go.Proofs.YtmeeknmjhlfnaaaDoor
namespace Go.Proofs.YtmeeknmjhlfnaaaDoor
theorem sound_fold (t : Tst) : ∀ k, (verdF t (gL t k)).sound = anyB k (fun x => (gR t x).isSome && decide (x = 0))
  | 0 => rfl
  | k + 1 => by
    rw [anyB_succ]
    cases hg : gR t k with
    | none => rw [gL_none hg, sound_fold t k]; simp
    | some p =>
      rw [gL_some hg, verdF_snoc]
      show ((verdF t (gL t k)).sound || decide (k = 0)) = _
      rw [sound_fold t k]; simp
theorem surely_fold (t : Tst) (s : Nat) : ∀ k, hasB (verdF t (gL t k)).surely s = (hasB (2 ^ t.n - 1) s && allB k (fun x => !(gR t x).isSome || hasB x s))
  | 0 => by
    show hasB (2 ^ t.n - 1) s = _
    simp [allB]
  | k + 1 => by
    rw [allB_succ]
    cases hg : gR t k with
    | none => rw [gL_none hg, surely_fold t s k]; simp
    | some p =>
      rw [gL_some hg, verdF_snoc]
      show hasB ((verdF t (gL t k)).surely &&& k) s = _
      rw [hasB_and, surely_fold t s k, Bool.and_assoc]; simp
theorem fit_iff {t : Tst} : t.fitB = true ↔ ∃ x, x < 2 ^ t.n ∧ (gR t x).isSome = true := by
  have key : ∀ k, (gL t k).isEmpty = false ↔ ∃ x, x < k ∧ (gR t x).isSome = true := fun k => by
    induction k with
    | zero => simp [gL]
    | succ k ih =>
      cases hg : gR t k with
      | none =>
        rw [gL_none hg, ih]
        constructor
        · rintro ⟨x, hx, h⟩; exact ⟨x, by omega, h⟩
        · rintro ⟨x, hx, h⟩
          by_cases hxk : x = k
          · subst hxk; rw [hg] at h; cases h
          · exact ⟨x, by omega, h⟩
      | some p =>
        rw [gL_some hg]
        constructor
        · intro _; exact ⟨k, by omega, by rw [hg]; rfl⟩
        · intro _; cases hl : gL t k <;> rfl
  unfold Tst.fitB
  rw [Bool.not_eq_true', key]
theorem bits_lt {t : Tst} (k : Nat) (hk : k ≤ 2 ^ t.n) : (verdF t (gL t k)).can < 2 ^ t.n ∧ (verdF t (gL t k)).surely < 2 ^ t.n := by
  induction k with
  | zero =>
    have := Nat.two_pow_pos t.n
    exact ⟨this, by show 2 ^ t.n - 1 < 2 ^ t.n; omega⟩
  | succ k ih =>
    have ih := ih (by omega)
    cases hg : gR t k with
    | none => rw [gL_none hg]; exact ih
    | some p =>
      rw [gL_some hg, verdF_snoc]
      exact ⟨Nat.or_lt_two_pow ih.1 (by dsimp only; omega), Nat.lt_of_le_of_lt Nat.and_le_left ih.2⟩
end Go.Proofs.YtmeeknmjhlfnaaaDoor
namespace Go.Proofs.YtmeeknmjhlfnaaaDoor
end Go.Proofs.YtmeeknmjhlfnaaaDoor
