/- The sets that fit are the document's truths; plain, no program in sight. What a set that fits says is what the document's one and two say; plain, no program in sight. What all sets that fit say of a street is what the document's leak says; plain, no program in sight. The program's answers are the document's; plain, no program in sight. The valve that is shut next is the document's; plain, no program in sight. -/
import Derived.Test.YtpognhnmkjpipaaDoorR10
namespace Go.Proofs.YtpognhnmkjpipaaDoor
theorem hasB_bit (x i : Nat) : hasB x i = x.testBit i := by
  unfold hasB
  rw [Nat.testBit_eq_decide_div_mod_eq]
theorem allB_succ (n : Nat) (p : Nat → Bool) : allB (n + 1) p = (allB n p && p n) := by simp [allB, List.range_succ, List.all_append]
theorem anyB_succ (n : Nat) (p : Nat → Bool) : anyB (n + 1) p = (anyB n p || p n) := by simp [anyB, List.range_succ, List.any_append]
theorem few_all : (List.range 1024).all (fun x => decide (2 < sizeN x ∨ x = 0 ∨ ∃ i, i < 10 ∧ (x = 2 ^ i ∨ ∃ j, j < 10 ∧ i < j ∧ x = 2 ^ i + 2 ^ j))) = true := by kernel_rfl
theorem few {x : Nat} (hx : x < 1024) (h : sizeN x ≤ 2) : x = 0 ∨ (∃ i, i < 10 ∧ x = 2 ^ i) ∨ ∃ i j, i < 10 ∧ j < 10 ∧ i < j ∧ x = 2 ^ i + 2 ^ j := by
  rcases of_decide_eq_true (List.all_eq_true.1 few_all x (List.mem_range.2 hx)) with h1 | h1 | ⟨i, hi, h1 | ⟨j, hj, hij, h1⟩⟩
  · omega
  · exact .inl h1
  · exact .inr (.inl ⟨i, hi, h1⟩)
  · exact .inr (.inr ⟨i, j, hi, hj, hij, h1⟩)
theorem one_all : (List.range 10).all (fun i => decide (2 ^ i < 1024 ∧ stL (2 ^ i) = [i] ∧ sizeN (2 ^ i) = 1 ∧ ∀ s, s < 10 → hasB (2 ^ i) s = decide (s = i))) = true := by kernel_rfl
theorem one_st {i : Nat} (hi : i < 10) : 2 ^ i < 1024 ∧ stL (2 ^ i) = [i] ∧ sizeN (2 ^ i) = 1 ∧ ∀ s, s < 10 → hasB (2 ^ i) s = decide (s = i) := of_decide_eq_true (List.all_eq_true.1 one_all i (List.mem_range.2 hi))
theorem two_all : (List.range 10).all (fun i => (List.range 10).all (fun j => decide (i < j → 2 ^ i + 2 ^ j < 1024 ∧ stL (2 ^ i + 2 ^ j) = [i, j] ∧ sizeN (2 ^ i + 2 ^ j) = 2 ∧ ∀ s, s < 10 → hasB (2 ^ i + 2 ^ j) s = (decide (s = i) || decide (s = j))))) = true := by kernel_rfl
theorem two_st {i j : Nat} (hi : i < 10) (hj : j < 10) (hij : i < j) : 2 ^ i + 2 ^ j < 1024 ∧ stL (2 ^ i + 2 ^ j) = [i, j] ∧ sizeN (2 ^ i + 2 ^ j) = 2 ∧ ∀ s, s < 10 → hasB (2 ^ i + 2 ^ j) s = (decide (s = i) || decide (s = j)) :=
  of_decide_eq_true (List.all_eq_true.1 (List.all_eq_true.1 two_all i (List.mem_range.2 hi)) j (List.mem_range.2 hj)) hij
theorem zero_st : stL 0 = [] ∧ sizeN 0 = 0 ∧ ∀ s, s < 10 → hasB 0 s = false := by decide
theorem op_nil (sh : Nat) : opSt sh [] = (0, 0) := rfl
theorem op_one (sh i : Nat) : opSt sh [i] = if hasB sh i then (0, 0) else (1, 0) := by
  unfold opSt
  simp only [List.foldl_cons, List.foldl_nil]
theorem op_two (sh i j : Nat) : opSt sh [i, j] = if hasB sh i then (if hasB sh j then (0, 0) else (1, 1)) else (if hasB sh j then (1, 0) else (2, 1)) := by
  unfold opSt
  simp only [List.foldl_cons, List.foldl_nil]
  cases hasB sh i <;> cases hasB sh j <;> rfl
theorem in0_iff {s : Spn} : in0 s = true ↔ ¬ (0 < s.lo ∨ s.hi < 0) := by
  simp only [in0, withinB, decide_eq_true_eq]; omega
theorem in0_no {s : Spn} (h : in0 s = false) : 0 < s.lo ∨ s.hi < 0 := by
  by_cases h9 : 0 < s.lo ∨ s.hi < 0
  · exact h9
  · rw [in0_iff.2 h9] at h; cases h
/-- the empty set -/
theorem gK_nil (t : Tst) : ∀ k, gK t 0 k = if allB k (fun i => in0 (t.rest i).flow) then some (anyP t.least) else none
  | 0 => rfl
  | k + 1 => by
    unfold gK
    rw [gK_nil t k, allB_succ]
    cases ha : allB k (fun i => in0 (t.rest i).flow)
    · rfl
    · simp only [if_true, Option.bind_some, Bool.true_and]
      unfold cutO
      rw [zero_st.1, op_nil]
      cases hin : in0 (t.rest k).flow
      · rw [if_pos ⟨rfl, in0_no hin⟩]; rfl
      · rw [if_neg (fun h => in0_iff.1 hin h.2), if_neg (by decide), if_neg (fun h => by cases h.1), if_neg (by decide)]; rfl
/-- one street -/
theorem gK_one (t : Tst) {i : Nat} (hi : i < 10) : ∀ k, gK t (2 ^ i) k = if allB k (oneP t i) then some ⟨oneK t i k, ⟨t.least, 1073741824⟩, ⟨0, 2147483648⟩⟩ else none
  | 0 => rfl
  | k + 1 => by
    unfold gK
    rw [gK_one t hi k, allB_succ]
    cases ha : allB k (oneP t i)
    · rfl
    · simp only [if_true, Option.bind_some, Bool.true_and]
      unfold cutO
      rw [(one_st hi).2.1, op_one]
      have hs : (t.rest k).shut = (t.s k).shut := rfl
      rw [hs]
      have hk : oneK t i (k + 1) = if hasB (t.s k).shut.toNat i then oneK t i k else cutS (oneK t i k) (t.rest k).flow := rfl
      rw [hk]
      cases hb : hasB (t.s k).shut.toNat i
      · have hp : oneP t i k = true := by unfold oneP; rw [hb]; rfl
        rw [hp]
        rw [if_neg (fun h => by cases h.1), if_neg (by decide), if_pos ⟨rfl, rfl⟩]; rfl
      · cases hin : in0 (t.rest k).flow
        · have hp : oneP t i k = false := by unfold oneP; rw [hb, hin]; rfl
          rw [hp, if_pos ⟨rfl, in0_no hin⟩]; rfl
        · have hp : oneP t i k = true := by unfold oneP; rw [hin]; simp
          rw [hp, if_neg (fun h => in0_iff.1 hin h.2), if_neg (by decide), if_neg (fun h => by cases h.1), if_neg (by decide)]; rfl
/-- two streets -/
theorem gK_two (t : Tst) (hL : 0 ≤ t.least) {i j : Nat} (hi : i < 10) (hj : j < 10) (hij : i < j) : ∀ k, (allB k (twoP t i j) = false → gK t (2 ^ i + 2 ^ j) k = none) ∧
    (allB k (twoP t i j) = true → ∃ c : Spn, gK t (2 ^ i + 2 ^ j) k = some ⟨(twoK t i j k).a, (twoK t i j k).b, c⟩ ∧ (twoK t i j k).c.lo = max c.lo (2 * t.least) ∧ (twoK t i j k).c.hi = c.hi ∧ t.least ≤ (twoK t i j k).a.lo ∧ t.least ≤ (twoK t i j k).b.lo)
  | 0 => by
    refine ⟨fun h => by simp [allB] at h, fun _ => ⟨⟨0, 2147483648⟩, rfl, by show 2 * t.least = max 0 (2 * t.least); omega, rfl, Int.le_refl _, Int.le_refl _⟩⟩
  | k + 1 => by
    obtain ⟨h0, h1⟩ := gK_two t hL hi hj hij k
    rw [allB_succ]
    cases ha : allB k (twoP t i j)
    · refine ⟨fun _ => ?_, fun h => by simp at h⟩
      unfold gK
      rw [h0 ha]; rfl
    · obtain ⟨c, hg, hc1, hc2, hc3, hc4⟩ := h1 ha
      have hk : twoK t i j (k + 1) = stepT (twoK t i j k) (t.s k).shut.toNat i j (t.rest k).flow := rfl
      unfold gK
      rw [hg, hk]
      simp only [Option.bind_some, Bool.true_and]
      unfold cutO
      rw [(two_st hi hj hij).2.1, op_two]
      have hs : (t.rest k).shut = (t.s k).shut := rfl
      rw [hs]
      unfold stepT twoP
      cases hb : hasB (t.s k).shut.toNat i <;> cases hb2 : hasB (t.s k).shut.toNat j
      · refine ⟨fun h => by simp at h, fun _ => ⟨cutS c (t.rest k).flow, ?_⟩⟩
        simp [cutS]; omega
      · refine ⟨fun h => by simp at h, fun _ => ⟨c, ?_⟩⟩
        simp [cutS]; omega
      · refine ⟨fun h => by simp at h, fun _ => ⟨c, ?_⟩⟩
        simp [cutS]; omega
      · refine ⟨fun h => ?_, fun h => ⟨c, ?_⟩⟩
        · have h9 := in0_no (s := (t.rest k).flow) (by simpa using h)
          simp [h9]
        · have h9 : in0 (t.rest k).flow = true := by simpa using h
          have h8 := in0_iff.1 h9
          simp [h8]; omega
end Go.Proofs.YtpognhnmkjpipaaDoor
namespace Go.Proofs.YtpognhnmkjpipaaDoor
theorem any_can {l : Int} (h : l ≤ 1073741824) : (anyP l).can = true := by
  unfold Pr.can anyP
  simp; omega
theorem gR_nil {t : Tst} (hk : t.Ok) : gR t 0 = if t.noneB then some (anyP t.least) else none := by
  have h0 := hk.l0
  have h1 := hk.e1
  unfold gR
  rw [zero_st.2.1, if_neg (by omega), gK_nil]
  have e : allB t.m (fun i => in0 (t.rest i).flow) = t.noneB := rfl
  rw [e]
  cases t.noneB
  · rfl
  · have e2 : narrowI 0 (anyP t.least) = anyP t.least := by unfold narrowI; rw [zero_st.2.1]; rfl
    simp only [if_true, Option.bind_some]
    rw [e2, any_can h1]; rfl
theorem gR_one {t : Tst} (hk : t.Ok) {i : Nat} (hi : i < 10) : gR t (2 ^ i) = if t.leaks < 1 then none else (oneR t i).map fun s => ⟨s, ⟨t.least, 1073741824⟩, ⟨0, 2147483648⟩⟩ := by
  have h1 := hk.e1
  unfold gR
  rw [(one_st hi).2.2.1, gK_one t hi]
  have ec : ((1 : Nat) : Int) = 1 := rfl
  rw [ec]
  by_cases hl : t.leaks < 1
  · rw [if_pos hl, if_pos hl]
  · rw [if_neg hl, if_neg hl]
    have en : ∀ p, narrowI (2 ^ i) p = p := fun p => by unfold narrowI; rw [(one_st hi).2.2.1]; rfl
    simp only [en]
    unfold oneR
    cases allB t.m (oneP t i)
    · rfl
    · simp only [if_true, Option.bind_some, Bool.true_and]
      have ecn : (⟨oneK t i t.m, ⟨t.least, 1073741824⟩, ⟨0, 2147483648⟩⟩ : Pr).can = decide ((oneK t i t.m).lo ≤ (oneK t i t.m).hi) := by
        unfold Pr.can
        rw [Bool.eq_iff_iff]; simp; omega
      rw [ecn]
      cases decide ((oneK t i t.m).lo ≤ (oneK t i t.m).hi) <;> rfl
theorem can_iff {p : Pr} : p.can = true ↔ p.a.lo ≤ p.a.hi ∧ p.b.lo ≤ p.b.hi ∧ p.c.lo ≤ p.c.hi := by
  unfold Pr.can
  simp
theorem twoB_iff {p : Pr} : twoB p = true ↔ (p.b.lo ≤ p.b.hi ∧ p.c.lo ≤ p.c.hi) ∧ (endT p).lo ≤ (endT p).hi := by
  unfold twoB
  simp
theorem pair_law {a b c c' : Spn} {L : Int} (h1 : c.lo = max c'.lo (2 * L)) (h2 : c.hi = c'.hi) (ha : L ≤ a.lo) (hb : L ≤ b.lo) :
    (Pr.narrow ⟨a, b, c'⟩).can = twoB ⟨a, b, c⟩ ∧ (twoB ⟨a, b, c⟩ = true → endT ⟨a, b, c⟩ = (Pr.narrow ⟨a, b, c'⟩).a) := by
  constructor
  · rw [Bool.eq_iff_iff, can_iff, twoB_iff]
    simp only [Pr.narrow, endT, cutS]
    constructor
    · rintro ⟨x1, x2, x3⟩; omega
    · rintro ⟨⟨x1, x2⟩, x3⟩; omega
  · intro h
    rw [twoB_iff] at h
    simp only [endT, cutS] at h
    simp only [Pr.narrow, endT, cutS, Spn.mk.injEq]
    omega
theorem pair_swap {a b c : Spn} : (Pr.narrow ⟨b, a, c⟩).can = (Pr.narrow ⟨a, b, c⟩).can ∧ (Pr.narrow ⟨b, a, c⟩).a = (Pr.narrow ⟨a, b, c⟩).b := by
  refine ⟨?_, rfl⟩
  rw [Bool.eq_iff_iff, can_iff, can_iff]
  constructor
  · rintro ⟨x1, x2, x3⟩; exact ⟨x2, x1, x3⟩
  · rintro ⟨x1, x2, x3⟩; exact ⟨x2, x1, x3⟩
theorem twoP_swap (t : Tst) (i j : Nat) : twoP t j i = twoP t i j := by
  funext k
  unfold twoP
  rw [Bool.or_comm (!hasB (t.s k).shut.toNat j)]
theorem twoK_swap (t : Tst) (i j : Nat) : ∀ k, twoK t j i k = ⟨(twoK t i j k).b, (twoK t i j k).a, (twoK t i j k).c⟩
  | 0 => rfl
  | k + 1 => by
    have h1 : twoK t j i (k + 1) = stepT (twoK t j i k) (t.s k).shut.toNat j i (t.rest k).flow := rfl
    have h2 : twoK t i j (k + 1) = stepT (twoK t i j k) (t.s k).shut.toNat i j (t.rest k).flow := rfl
    rw [h1, h2, twoK_swap t i j k]
    unfold stepT
    cases hasB (t.s k).shut.toNat i <;> cases hasB (t.s k).shut.toNat j <;> rfl
theorem gR_two {t : Tst} (hk : t.Ok) {i j : Nat} (hi : i < 10) (hj : j < 10) (hij : i < j) :
    (t.leaks < 2 → gR t (2 ^ i + 2 ^ j) = none) ∧ (2 ≤ t.leaks → (∃ p, gR t (2 ^ i + 2 ^ j) = some p ∧ twoR t i j = some p.a ∧ twoR t j i = some p.b) ∨ (gR t (2 ^ i + 2 ^ j) = none ∧ twoR t i j = none ∧ twoR t j i = none)) := by
  have he := hk.e0
  have ec : ((2 : Nat) : Int) = 2 := rfl
  have en : ∀ p, narrowI (2 ^ i + 2 ^ j) p = p.narrow := fun p => by unfold narrowI; rw [(two_st hi hj hij).2.2.1]; rfl
  obtain ⟨g0, g1⟩ := gK_two t (by omega) hi hj hij t.m
  constructor
  · intro hl
    unfold gR
    rw [(two_st hi hj hij).2.2.1, ec, if_pos hl]
  · intro hl
    have eR : gR t (2 ^ i + 2 ^ j) = (gK t (2 ^ i + 2 ^ j) t.m).bind fun p => if p.narrow.can then some p.narrow else none := by
      unfold gR
      rw [(two_st hi hj hij).2.2.1, ec, if_neg (by omega)]
      simp only [en]
    rw [eR]
    cases ha : allB t.m (twoP t i j)
    · right
      rw [g0 ha]
      refine ⟨rfl, ?_, ?_⟩
      · unfold twoR; rw [ha]; rfl
      · unfold twoR; rw [twoP_swap, ha]; rfl
    · obtain ⟨c, hg, hc1, hc2, hc3, hc4⟩ := g1 ha
      rw [hg]
      simp only [Option.bind_some]
      have e1 := twoR_eq ha
      have e2 := twoR_eq (x1 := j) (x2 := i) (show allB t.m (twoP t j i) = true by rw [twoP_swap]; exact ha)
      rw [twoK_swap] at e2
      rw [e1, e2]
      obtain ⟨p1, p2⟩ := pair_law (a := (twoK t i j t.m).a) (b := (twoK t i j t.m).b) hc1 hc2 hc3 hc4
      obtain ⟨q1, q2⟩ := pair_law (a := (twoK t i j t.m).b) (b := (twoK t i j t.m).a) hc1 hc2 hc4 hc3
      obtain ⟨s1, s2⟩ := pair_swap (a := (twoK t i j t.m).a) (b := (twoK t i j t.m).b) (c := c)
      rw [s1] at q1
      rw [s2] at q2
      have eK : (⟨(twoK t i j t.m).a, (twoK t i j t.m).b, (twoK t i j t.m).c⟩ : Pr) = twoK t i j t.m := rfl
      rw [eK] at p1 p2
      rw [← q1, ← p1]
      rw [← p1] at p2
      rw [← q1] at q2
      cases hcan : (Pr.narrow ⟨(twoK t i j t.m).a, (twoK t i j t.m).b, c⟩).can
      · exact .inr ⟨rfl, rfl, rfl⟩
      · exact .inl ⟨_, rfl, by rw [if_pos rfl, p2 hcan], by rw [if_pos rfl, q2 hcan]⟩
end Go.Proofs.YtpognhnmkjpipaaDoor
namespace Go.Proofs.YtpognhnmkjpipaaDoor
/-- the least span that contains all of these -/
structure IsHull (S : Spn → Prop) (h : Spn) : Prop where
  lo : ∃ a, S a ∧ a.lo = h.lo
  hi : ∃ a, S a ∧ a.hi = h.hi
  le : ∀ a, S a → h.lo ≤ a.lo ∧ a.hi ≤ h.hi
def OptHull (S : Spn → Prop) : Option Spn → Prop
  | none => ∀ a, ¬ S a
  | some h => IsHull S h
theorem OptHull.unique {S S' : Spn → Prop} {o o' : Option Spn} (h : OptHull S o) (h' : OptHull S' o') (hs : ∀ a, S a ↔ S' a) : o = o' := by
  cases o with
  | none =>
    cases o' with
    | none => rfl
    | some b =>
      obtain ⟨a, ha, -⟩ := h'.lo
      exact absurd ((hs a).2 ha) (h a)
  | some b =>
    cases o' with
    | none =>
      obtain ⟨a, ha, -⟩ := h.lo
      exact absurd ((hs a).1 ha) (h' a)
    | some c =>
      have h : IsHull S b := h
      have h' : IsHull S' c := h'
      obtain ⟨a1, s1, e1⟩ := h.lo
      obtain ⟨a2, s2, e2⟩ := h.hi
      obtain ⟨a3, s3, e3⟩ := h'.lo
      obtain ⟨a4, s4, e4⟩ := h'.hi
      have q1 := h'.le a1 ((hs _).1 s1)
      have q2 := h'.le a2 ((hs _).1 s2)
      have q3 := h.le a3 ((hs _).2 s3)
      have q4 := h.le a4 ((hs _).2 s4)
      cases b; cases c
      simp only [Option.some.injEq, Spn.mk.injEq] at *
      omega
theorem OptHull.add {S : Spn → Prop} {o : Option Spn} (h : OptHull S o) (x : Option Spn) : OptHull (fun a => S a ∨ x = some a) (addO o x) := by
  cases x with
  | none =>
    have e : (fun a => S a ∨ (none : Option Spn) = some a) = S := by funext a; simp
    rw [e]; exact h
  | some b =>
    cases o with
    | none =>
      refine ⟨⟨b, .inr rfl, rfl⟩, ⟨b, .inr rfl, rfl⟩, ?_⟩
      rintro a (ha | ha)
      · exact absurd ha (h a)
      · cases ha; exact ⟨Int.le_refl _, Int.le_refl _⟩
    | some c =>
      have h : IsHull S c := h
      show IsHull _ ⟨min c.lo b.lo, max c.hi b.hi⟩
      obtain ⟨⟨a1, s1, e1⟩, ⟨a2, s2, e2⟩, h3⟩ := h
      refine ⟨?_, ?_, ?_⟩
      · by_cases hb : c.lo ≤ b.lo
        · exact ⟨a1, .inl s1, by dsimp only; omega⟩
        · exact ⟨b, .inr rfl, by dsimp only; omega⟩
      · by_cases hb : b.hi ≤ c.hi
        · exact ⟨a2, .inl s2, by dsimp only; omega⟩
        · exact ⟨b, .inr rfl, by dsimp only; omega⟩
      · rintro a (ha | ha)
        · have := h3 a ha; dsimp only; omega
        · cases ha; dsimp only; omega
def foldO (o : Option Spn) (f : Nat → Option Spn) : Nat → Option Spn
  | 0 => o
  | k + 1 => addO (foldO o f k) (f k)
theorem foldO_hull (o : Option Spn) (f : Nat → Option Spn) : ∀ k, OptHull (fun a => o = some a ∨ ∃ x, x < k ∧ f x = some a) (foldO o f k)
  | 0 => by
    cases o with
    | none => rintro a (h | ⟨x, hx, -⟩); cases h; omega
    | some b => exact ⟨⟨b, .inl rfl, rfl⟩, ⟨b, .inl rfl, rfl⟩, by rintro a (h | ⟨x, hx, -⟩); cases h; exact ⟨Int.le_refl _, Int.le_refl _⟩; omega⟩
  | k + 1 => by
    have hq := (foldO_hull o f k).add (f k)
    have e : (fun a => (o = some a ∨ ∃ x, x < k ∧ f x = some a) ∨ f k = some a) = fun a => o = some a ∨ ∃ x, x < k + 1 ∧ f x = some a := by
      funext a
      apply propext
      constructor
      · rintro ((h | ⟨x, hx, h⟩) | h)
        · exact .inl h
        · exact .inr ⟨x, by omega, h⟩
        · exact .inr ⟨k, by omega, h⟩
      · rintro (h | ⟨x, hx, h⟩)
        · exact .inl (.inl h)
        · by_cases hxk : x = k
          · subst hxk; exact .inr h
          · exact .inl (.inr ⟨x, by omega, h⟩)
    rw [e] at hq
    exact hq
/-- what a set says of a street -/
def spanAt (x : Nat) (p : Pr) (s : Nat) : Spn := if (stL x).head? = some s then p.a else p.b
theorem span_a {x s : Nat} {r : List Nat} (p : Pr) (h : stL x = s :: r) : spanAt x p s = p.a := by
  unfold spanAt
  rw [if_pos (by rw [h]; rfl)]
theorem span_b {x i s : Nat} {r : List Nat} (p : Pr) (h : stL x = i :: r) (hne : i ≠ s) : spanAt x p s = p.b := by
  unfold spanAt
  rw [if_neg (by rw [h]; simpa using hne)]
def cont (t : Tst) (s x : Nat) : Option Spn := match gR t x with
  | none => none
  | some p => if hasB x s then some (spanAt x p s) else none
theorem hasB_or (a b s : Nat) : hasB (a ||| b) s = (hasB a s || hasB b s) := by rw [hasB_bit, hasB_bit, hasB_bit, Nat.testBit_or]
theorem hasB_and (a b s : Nat) : hasB (a &&& b) s = (hasB a s && hasB b s) := by rw [hasB_bit, hasB_bit, hasB_bit, Nat.testBit_and]
theorem gR_few {t : Tst} (hk : t.Ok) {x : Nat} {p : Pr} (hx : x < 1024) (h : gR t x = some p) : x = 0 ∨ (∃ i, i < 10 ∧ x = 2 ^ i) ∨ ∃ i j, i < 10 ∧ j < 10 ∧ i < j ∧ x = 2 ^ i + 2 ^ j := by
  have h1 := gR_size h
  have h2 := hk.l1
  exact few hx (by omega)
/-- one set is taken in -/
theorem add_at {t : Tst} (hk : t.Ok) {x : Nat} {p : Pr} (hx : x < 1024) (h : gR t x = some p) (v : Vd) {s : Nat} (hs : s < 10) :
    (if hasB (v.add ⟨p, x⟩).can s then some ((v.add ⟨p, x⟩).leaks s) else none) = addO (if hasB v.can s then some (v.leaks s) else none) (if hasB x s then some (spanAt x p s) else none) := by
  have ec : (v.add ⟨p, x⟩).can = v.can ||| x := rfl
  have el : (v.add ⟨p, x⟩).leaks = (leaksK ⟨p, x⟩ v.can v.leaks (stL x)).2 := rfl
  rw [ec, el, hasB_or]
  rcases gR_few hk hx h with rfl | ⟨i, hi, rfl⟩ | ⟨i, j, hi, hj, hij, rfl⟩
  · rw [zero_st.2.2 s hs, zero_st.1]
    simp only [Bool.or_false, Bool.false_eq_true, if_false]
    rfl
  · obtain ⟨-, hst, -, hb⟩ := one_st hi
    rw [hb s hs, hst]
    have e1 : (leaksK ⟨p, 2 ^ i⟩ v.can v.leaks [i]).2 = leak1 ⟨p, 2 ^ i⟩ v.can v.leaks 0 i := rfl
    rw [e1]
    unfold leak1
    by_cases hsi : s = i
    · subst hsi
      rw [span_a p hst]
      simp only [decide_true, Bool.or_true, if_true]
      cases hasB v.can s
      · rfl
      · simp only [addO, spOf, addS, if_true, Option.getD_some, Option.isSome_some]
        rw [Int.min_comm, Int.max_comm]
    · rw [decide_eq_false hsi]
      simp only [Bool.or_false, Bool.false_eq_true, if_false]
      rw [if_neg hsi]; rfl
  · obtain ⟨-, hst, -, hb⟩ := two_st hi hj hij
    rw [hb s hs, hst]
    have e1 : (leaksK ⟨p, 2 ^ i + 2 ^ j⟩ v.can v.leaks [i, j]).2 = leak1 ⟨p, 2 ^ i + 2 ^ j⟩ v.can (leak1 ⟨p, 2 ^ i + 2 ^ j⟩ v.can v.leaks 0 i) 1 j := rfl
    rw [e1]
    unfold leak1
    by_cases hsi : s = i
    · subst hsi
      have hne : s ≠ j := by omega
      rw [span_a p hst]
      simp only [decide_true, Bool.or_true, Bool.true_or, if_true]
      rw [if_neg hne]
      cases hasB v.can s
      · rfl
      · simp only [addO, spOf, addS, if_true, Option.getD_some, Option.isSome_some]
        rw [Int.min_comm, Int.max_comm]
    · rw [decide_eq_false hsi]
      by_cases hsj : s = j
      · subst hsj
        rw [span_b p hst (Ne.symm hsi)]
        simp only [decide_true, Bool.or_true, if_true]
        rw [if_neg hsi]
        cases hasB v.can s
        · rfl
        · simp only [addO, spOf, addS, if_true, Option.getD_some, Option.isSome_some]
          rw [Int.min_comm, Int.max_comm]; rfl
      · rw [decide_eq_false hsj]
        simp only [Bool.or_false, Bool.false_eq_true, if_false]
        rw [if_neg hsj, if_neg hsi]; rfl
theorem prog_fold {t : Tst} (hk : t.Ok) {s : Nat} (hs : s < 10) : ∀ {k}, k ≤ 1024 → (if hasB (verdF t (gL t k)).can s then some ((verdF t (gL t k)).leaks s) else none) = foldO none (cont t s) k
  | 0, _ => by
    have : hasB (verdF t (gL t 0)).can s = false := zero_st.2.2 s hs
    rw [this]; rfl
  | k + 1, h => by
    have ih := prog_fold hk hs (k := k) (by omega)
    show _ = addO (foldO none (cont t s) k) (cont t s k)
    cases hg : gR t k with
    | none =>
      have ec : cont t s k = none := by unfold cont; rw [hg]
      rw [gL_none hg, ih, ec]; rfl
    | some p =>
      have ec : cont t s k = if hasB k s then some (spanAt k p s) else none := by unfold cont; rw [hg]
      rw [gL_some hg, verdF_snoc, add_at hk (by omega) hg _ hs, ih, ec]
theorem leak_fold (t : Tst) (x : Nat) : ∀ k, leakK t x k = foldO (leakK t x 0) (fun i => if i = x then none else twoR t x i) k
  | 0 => rfl
  | k + 1 => by
    show (if k = x then leakK t x k else addO (leakK t x k) (twoR t x k)) = addO (foldO _ _ k) (if k = x then none else twoR t x k)
    rw [← leak_fold t x k]
    by_cases h : k = x
    · rw [if_pos h, if_pos h]; rfl
    · rw [if_neg h, if_neg h]
theorem pow_two_lt {i j n : Nat} (hij : i < j) (hj : j < n) : 2 ^ i + 2 ^ j < 2 ^ n := by
  have h1 : 2 ^ i < 2 ^ j := Nat.pow_lt_pow_right (by omega) hij
  have h2 : 2 ^ (j + 1) ≤ 2 ^ n := Nat.pow_le_pow_right (by omega) hj
  rw [Nat.pow_succ] at h2
  omega
theorem pow_lt_of {i n : Nat} (h : 2 ^ i < 2 ^ n) : i < n := (Nat.pow_lt_pow_iff_right (by omega)).1 h
theorem cont_iff {t : Tst} (hk : t.Ok) {s : Nat} (hs : s < t.n) (a : Spn) :
    (none = some a ∨ ∃ x, x < 2 ^ t.n ∧ cont t s x = some a) ↔ ((1 ≤ t.leaks ∧ oneR t s = some a) ∨ (2 ≤ t.leaks ∧ ∃ i, i < t.n ∧ i ≠ s ∧ twoR t s i = some a)) := by
  have hn := hk.n2
  have h10 := pow_ten hn
  constructor
  · rintro (h | ⟨x, hx, h⟩)
    · cases h
    · unfold cont at h
      cases hg : gR t x with
      | none => rw [hg] at h; cases h
      | some p =>
        rw [hg] at h
        simp only at h
        rcases gR_few hk (by omega) hg with rfl | ⟨i, hi, rfl⟩ | ⟨i, j, hi, hj, hij, rfl⟩
        · rw [zero_st.2.2 s (by omega)] at h; cases h
        · obtain ⟨-, hst, -, hb⟩ := one_st hi
          rw [hb s (by omega)] at h
          by_cases hsi : s = i
          · subst hsi
            rw [span_a p hst] at h
            simp only [decide_true, if_true, Option.some.injEq] at h
            rw [gR_one hk hi] at hg
            by_cases hl : t.leaks < 1
            · rw [if_pos hl] at hg; cases hg
            · rw [if_neg hl] at hg
              cases ho : oneR t s with
              | none => rw [ho] at hg; cases hg
              | some q => rw [ho] at hg; cases hg; exact .inl ⟨by omega, by rw [← h]⟩
          · rw [decide_eq_false hsi] at h; cases h
        · obtain ⟨-, hst, -, hb⟩ := two_st hi hj hij
          have hjn : j < t.n := pow_lt_of (Nat.lt_of_le_of_lt (Nat.le_add_left _ _) hx)
          rw [hb s (by omega)] at h
          obtain ⟨g0, g1⟩ := gR_two hk hi hj hij
          by_cases hl : t.leaks < 2
          · rw [g0 hl] at hg; cases hg
          · rcases g1 (by omega) with ⟨q, hq, e1, e2⟩ | ⟨hq, -, -⟩
            · rw [hq] at hg
              cases hg
              by_cases hsi : s = i
              · subst hsi
                rw [span_a _ hst] at h
                simp only [decide_true, Bool.true_or, if_true, Option.some.injEq] at h
                exact .inr ⟨by omega, j, hjn, by omega, by rw [e1, h]⟩
              · by_cases hsj : s = j
                · subst hsj
                  rw [span_b _ hst (Ne.symm hsi)] at h
                  simp only [decide_true, Bool.or_true, if_true, Option.some.injEq] at h
                  exact .inr ⟨by omega, i, by omega, by omega, by rw [e2, h]⟩
                · rw [decide_eq_false hsi, decide_eq_false hsj] at h; cases h
            · rw [hq] at hg; cases hg
  · rintro (⟨hl, ho⟩ | ⟨hl, i, hi, hne, ho⟩)
    · refine .inr ⟨2 ^ s, Nat.pow_lt_pow_right (by omega) hs, ?_⟩
      obtain ⟨-, hst, -, hb⟩ := one_st (i := s) (by omega)
      unfold cont
      rw [gR_one hk (by omega), if_neg (by omega), ho, hb s (by omega)]
      simp only [Option.map_some, decide_true, if_true]
      rw [span_a _ hst]
    · rcases Nat.lt_or_ge s i with hsi | hsi
      · obtain ⟨-, hst, -, hb⟩ := two_st (i := s) (j := i) (by omega) (by omega) hsi
        rcases (gR_two hk (i := s) (j := i) (by omega) (by omega) hsi).2 hl with ⟨q, hq, e1, e2⟩ | ⟨-, e1, -⟩
        · refine .inr ⟨2 ^ s + 2 ^ i, pow_two_lt hsi hi, ?_⟩
          unfold cont
          rw [hq, hb s (by omega)]
          rw [e1] at ho
          cases ho
          simp only [decide_true, Bool.true_or, if_true]
          rw [span_a _ hst]
        · rw [e1] at ho; cases ho
      · have hsi : i < s := by omega
        obtain ⟨-, hst, -, hb⟩ := two_st (i := i) (j := s) (by omega) (by omega) hsi
        rcases (gR_two hk (i := i) (j := s) (by omega) (by omega) hsi).2 hl with ⟨q, hq, e1, e2⟩ | ⟨-, -, e2⟩
        · refine .inr ⟨2 ^ i + 2 ^ s, pow_two_lt hsi hs, ?_⟩
          unfold cont
          rw [hq, hb s (by omega)]
          rw [e2] at ho
          cases ho
          simp only [decide_true, Bool.or_true, if_true]
          rw [span_b _ hst hne]
        · rw [e2] at ho; cases ho
theorem leak_hull (t : Tst) (s : Nat) : OptHull (fun a => (1 ≤ t.leaks ∧ oneR t s = some a) ∨ (2 ≤ t.leaks ∧ ∃ i, i < t.n ∧ i ≠ s ∧ twoR t s i = some a)) (leakO t s) := by
  have h0 : ∀ a, leakK t s 0 = some a ↔ (1 ≤ t.leaks ∧ oneR t s = some a) := fun a => by
    show (if 1 ≤ t.leaks then addO none (oneR t s) else none) = some a ↔ _
    by_cases hl : 1 ≤ t.leaks
    · rw [if_pos hl]
      cases oneR t s with
      | none => simp [addO]
      | some b => simp [addO, addS, hl]
    · rw [if_neg hl]; simp [hl]
  unfold leakO
  by_cases hl : 2 ≤ t.leaks
  · rw [if_pos hl, leak_fold]
    have h := foldO_hull (leakK t s 0) (fun i => if i = s then none else twoR t s i) t.n
    have e : (fun a => leakK t s 0 = some a ∨ ∃ x, x < t.n ∧ (if x = s then none else twoR t s x) = some a) = fun a => (1 ≤ t.leaks ∧ oneR t s = some a) ∨ (2 ≤ t.leaks ∧ ∃ i, i < t.n ∧ i ≠ s ∧ twoR t s i = some a) := by
      funext a
      apply propext
      rw [h0]
      constructor
      · rintro (h | ⟨x, hx, h⟩)
        · exact .inl h
        · by_cases hxs : x = s
          · rw [if_pos hxs] at h; cases h
          · rw [if_neg hxs] at h; exact .inr ⟨hl, x, hx, hxs, h⟩
      · rintro (h | ⟨-, x, hx, hxs, h⟩)
        · exact .inl h
        · exact .inr ⟨x, hx, by rw [if_neg hxs]; exact h⟩
    rw [e] at h
    exact h
  · rw [if_neg hl]
    have h := foldO_hull (leakK t s 0) (fun _ => none) 0
    have e : (fun a => leakK t s 0 = some a ∨ ∃ x, x < 0 ∧ (none : Option Spn) = some a) = fun a => (1 ≤ t.leaks ∧ oneR t s = some a) ∨ (2 ≤ t.leaks ∧ ∃ i, i < t.n ∧ i ≠ s ∧ twoR t s i = some a) := by
      funext a
      apply propext
      rw [h0]
      constructor
      · rintro (h | ⟨x, hx, h⟩)
        · exact .inl h
        · omega
      · rintro (h | ⟨h, -⟩)
        · exact .inl h
        · exact absurd h hl
    rw [e] at h
    exact h
/-- the leak of a street -/
theorem leak_eq {t : Tst} (hk : t.Ok) {s : Nat} (hs : s < t.n) : (if hasB (verd t).can s then some ((verd t).leaks s) else none) = leakO t s := by
  have h10 := pow_ten hk.n2
  have hn := hk.n2
  have e : verd t = verdF t (gL t (2 ^ t.n)) := rfl
  rw [e, prog_fold hk (by omega) h10]
  exact (foldO_hull none (cont t s) (2 ^ t.n)).unique (leak_hull t s) (cont_iff hk hs)
end Go.Proofs.YtpognhnmkjpipaaDoor
namespace Go.Proofs.YtpognhnmkjpipaaDoor
theorem sound_fold (t : Tst) : ∀ k, (verdF t (gL t k)).sound = anyB k (fun x => (gR t x).isSome && decide (x = 0))
  | 0 => rfl
  | k + 1 => by
    rw [anyB_succ]
    cases hg : gR t k with
    | none => rw [gL_none hg, sound_fold t k]; simp
    | some p =>
      rw [gL_some hg, verdF_snoc]
      show ((verdF t (gL t k)).sound || decide (k = 0)) = _
      rw [sound_fold t k]; simp
theorem surely_fold (t : Tst) (s : Nat) : ∀ k, hasB (verdF t (gL t k)).surely s = (hasB (2 ^ t.n - 1) s && allB k (fun x => !(gR t x).isSome || hasB x s))
  | 0 => by
    show hasB (2 ^ t.n - 1) s = _
    simp [allB]
  | k + 1 => by
    rw [allB_succ]
    cases hg : gR t k with
    | none => rw [gL_none hg, surely_fold t s k]; simp
    | some p =>
      rw [gL_some hg, verdF_snoc]
      show hasB ((verdF t (gL t k)).surely &&& k) s = _
      rw [hasB_and, surely_fold t s k, Bool.and_assoc]; simp
theorem fit_iff {t : Tst} : t.fitB = true ↔ ∃ x, x < 2 ^ t.n ∧ (gR t x).isSome = true := by
  have key : ∀ k, (gL t k).isEmpty = false ↔ ∃ x, x < k ∧ (gR t x).isSome = true := fun k => by
    induction k with
    | zero => simp [gL]
    | succ k ih =>
      cases hg : gR t k with
      | none =>
        rw [gL_none hg, ih]
        constructor
        · rintro ⟨x, hx, h⟩; exact ⟨x, by omega, h⟩
        · rintro ⟨x, hx, h⟩
          by_cases hxk : x = k
          · subst hxk; rw [hg] at h; cases h
          · exact ⟨x, by omega, h⟩
      | some p =>
        rw [gL_some hg]
        constructor
        · intro _; exact ⟨k, by omega, by rw [hg]; rfl⟩
        · intro _; cases hl : gL t k <;> rfl
  unfold Tst.fitB
  rw [Bool.not_eq_true', key]
theorem zero_some {t : Tst} (hk : t.Ok) : (gR t 0).isSome = t.noneB := by
  rw [gR_nil hk]
  cases t.noneB <;> rfl
/-- a set that fits is empty, or some street can leak -/
theorem leak_some {t : Tst} (hk : t.Ok) {s : Nat} (hs : s < t.n) : (leakO t s).isSome = true ↔ ∃ x, x < 2 ^ t.n ∧ (gR t x).isSome = true ∧ hasB x s = true := by
  have h := foldO_hull none (cont t s) (2 ^ t.n)
  have e : leakO t s = foldO none (cont t s) (2 ^ t.n) := ((h.unique (leak_hull t s) (cont_iff hk hs))).symm
  rw [e]
  constructor
  · intro hs
    cases ho : foldO none (cont t s) (2 ^ t.n) with
    | none => rw [ho] at hs; cases hs
    | some b =>
      rw [ho] at h
      obtain ⟨a, ha | ⟨x, hx, hc⟩, -⟩ := (show IsHull _ b from h).lo
      · cases ha
      · refine ⟨x, hx, ?_⟩
        unfold cont at hc
        cases hg : gR t x with
        | none => rw [hg] at hc; cases hc
        | some p =>
          rw [hg] at hc
          simp only at hc
          cases hb : hasB x s
          · rw [hb] at hc; cases hc
          · exact ⟨rfl, rfl⟩
  · rintro ⟨x, hx, hg, hb⟩
    cases ho : foldO none (cont t s) (2 ^ t.n) with
    | some b => rfl
    | none =>
      rw [ho] at h
      cases hg2 : gR t x with
      | none => rw [hg2] at hg; cases hg
      | some p => exact absurd (.inr ⟨x, hx, by unfold cont; rw [hg2]; simp only; rw [hb]; rfl⟩) (h (spanAt x p s))
theorem fits_eq {t : Tst} (hk : t.Ok) : t.fitB = fitsB t := by
  have h10 := pow_ten hk.n2
  have hn := hk.n2
  rw [Bool.eq_iff_iff, fit_iff]
  unfold fitsB
  rw [Bool.or_eq_true, anyB_iff]
  constructor
  · rintro ⟨x, hx, h⟩
    cases hg : gR t x with
    | none => rw [hg] at h; cases h
    | some p =>
      rcases gR_few hk (by omega) hg with rfl | ⟨i, hi, rfl⟩ | ⟨i, j, hi, hj, hij, rfl⟩
      · right; rw [← zero_some hk, hg]; rfl
      · left
        have hin : i < t.n := pow_lt_of hx
        exact ⟨i, hin, (leak_some hk hin).2 ⟨_, hx, h, by rw [(one_st hi).2.2.2 i hi]; simp⟩⟩
      · left
        have hjn : j < t.n := pow_lt_of (Nat.lt_of_le_of_lt (Nat.le_add_left _ _) hx)
        exact ⟨j, hjn, (leak_some hk hjn).2 ⟨_, hx, h, by rw [(two_st hi hj hij).2.2.2 j hj]; simp⟩⟩
  · rintro (⟨s, hs, h⟩ | h)
    · obtain ⟨x, hx, hg, -⟩ := (leak_some hk hs).1 h
      exact ⟨x, hx, hg⟩
    · exact ⟨0, Nat.two_pow_pos _, by rw [zero_some hk]; exact h⟩
theorem err_eq (t : Tst) : t.err = docErr t := by
  unfold Tst.err docErr
  cases hv : t.valid
  · rfl
  · rw [fits_eq (Tst.ok hv)]
theorem bits_lt {t : Tst} (k : Nat) (hk : k ≤ 2 ^ t.n) : (verdF t (gL t k)).can < 2 ^ t.n ∧ (verdF t (gL t k)).surely < 2 ^ t.n := by
  induction k with
  | zero =>
    have := Nat.two_pow_pos t.n
    exact ⟨this, by show 2 ^ t.n - 1 < 2 ^ t.n; omega⟩
  | succ k ih =>
    have ih := ih (by omega)
    cases hg : gR t k with
    | none => rw [gL_none hg]; exact ih
    | some p =>
      rw [gL_some hg, verdF_snoc]
      exact ⟨Nat.or_lt_two_pow ih.1 (by dsimp only; omega), Nat.lt_of_le_of_lt Nat.and_le_left ih.2⟩
theorem sum_mod (c : Nat) : ∀ n, sumB (hasB c) n = c % 2 ^ n
  | 0 => by simp [sumB, Nat.mod_one]
  | n + 1 => by
    unfold sumB
    rw [sum_mod c n, Nat.pow_succ, Nat.mod_mul]
    unfold hasB
    have h := Nat.mod_two_eq_zero_or_one (c / 2 ^ n)
    rcases h with h | h <;> rw [h] <;> simp
theorem sum_congr {p q : Nat → Bool} : ∀ {n}, (∀ i, i < n → p i = q i) → sumB p n = sumB q n
  | 0, _ => rfl
  | n + 1, h => by
    unfold sumB
    rw [sum_congr (fun i hi => h i (by omega)), h n (by omega)]
theorem can_eq (t : Tst) : t.canR = docCan t := by
  unfold Tst.canR docCan
  rw [err_eq]
  by_cases h0 : docErr t = 0
  · rw [if_pos h0, if_pos h0]
    have hv : t.valid = true := by
      cases hv : t.valid
      · rw [derr_no hv] at h0; cases h0
      · rfl
    have hk := Tst.ok hv
    have h1 := (bits_lt (t := t) (2 ^ t.n) (Nat.le_refl _)).1
    have e : sumB (fun i => (leakO t i).isSome) t.n = sumB (hasB (verd t).can) t.n := sum_congr fun s hs => by
      rw [← leak_eq hk hs]
      cases hasB (verd t).can s <;> rfl
    rw [e, sum_mod]
    exact (Nat.mod_eq_of_lt h1).symm
  · rw [if_neg h0, if_neg h0]
theorem without_iff {t : Tst} (hk : t.Ok) {s : Nat} (hs : s < t.n) : withoutB t s = true ↔ ∃ x, x < 2 ^ t.n ∧ (gR t x).isSome = true ∧ hasB x s = false := by
  have h10 := pow_ten hk.n2
  have hn := hk.n2
  unfold withoutB
  rw [Bool.or_eq_true, anyB_iff]
  constructor
  · rintro (h | ⟨i, hi, h⟩)
    · exact ⟨0, Nat.two_pow_pos _, by rw [zero_some hk]; exact h, zero_st.2.2 s (by omega)⟩
    · unfold wi at h
      simp only [Bool.and_eq_true, Bool.not_eq_true', decide_eq_false_iff_not, Bool.or_eq_true, decide_eq_true_eq] at h
      obtain ⟨hne, ⟨h1, h2⟩ | ⟨h1, h2⟩⟩ := h
      · refine ⟨2 ^ i, Nat.pow_lt_pow_right (by omega) hi, ?_, ?_⟩
        · rw [gR_one hk (by omega), if_neg (by omega)]
          cases ho : oneR t i with
          | none => rw [ho] at h1; cases h1
          | some b => rfl
        · rw [(one_st (i := i) (by omega)).2.2.2 s (by omega)]; simpa using Ne.symm hne
      · obtain ⟨k, hki, hw⟩ := anyB_iff.1 h2
        unfold wk at hw
        simp only [Bool.and_eq_true, Bool.not_eq_true', decide_eq_false_iff_not] at hw
        obtain ⟨hkn, hw⟩ := hw
        refine ⟨2 ^ k + 2 ^ i, pow_two_lt hki hi, ?_, ?_⟩
        · rcases (gR_two hk (i := k) (j := i) (by omega) (by omega) hki).2 h1 with ⟨q, hq, -, -⟩ | ⟨-, -, e2⟩
          · rw [hq]; rfl
          · rw [e2] at hw; cases hw
        · rw [(two_st (i := k) (j := i) (by omega) (by omega) hki).2.2.2 s (by omega)]
          rw [decide_eq_false (Ne.symm hkn), decide_eq_false (Ne.symm hne)]; rfl
  · rintro ⟨x, hx, h, hb⟩
    cases hg : gR t x with
    | none => rw [hg] at h; cases h
    | some p =>
      rcases gR_few hk (by omega) hg with rfl | ⟨i, hi, rfl⟩ | ⟨i, j, hi, hj, hij, rfl⟩
      · left; rw [← zero_some hk, hg]; rfl
      · right
        have hin : i < t.n := pow_lt_of hx
        rw [(one_st hi).2.2.2 s (by omega)] at hb
        have hne : s ≠ i := by simpa using hb
        refine ⟨i, hin, ?_⟩
        rw [gR_one hk hi] at hg
        by_cases hl : t.leaks < 1
        · rw [if_pos hl] at hg; cases hg
        · rw [if_neg hl] at hg
          unfold wi
          have ho : (oneR t i).isSome = true := by
            cases ho : oneR t i with
            | none => rw [ho] at hg; cases hg
            | some b => rfl
          rw [ho, decide_eq_false (Ne.symm hne), decide_eq_true (show 1 ≤ t.leaks by omega)]; rfl
      · right
        have hjn : j < t.n := pow_lt_of (Nat.lt_of_le_of_lt (Nat.le_add_left _ _) hx)
        rw [(two_st hi hj hij).2.2.2 s (by omega), Bool.or_eq_false_iff] at hb
        have hn1 : s ≠ i := by simpa using hb.1
        have hn2 : s ≠ j := by simpa using hb.2
        obtain ⟨g0, g1⟩ := gR_two hk hi hj hij
        by_cases hl : t.leaks < 2
        · rw [g0 hl] at hg; cases hg
        · rcases g1 (by omega) with ⟨q, hq, e1, e2⟩ | ⟨hq, -, -⟩
          · refine ⟨j, hjn, ?_⟩
            unfold wi
            rw [decide_eq_false (Ne.symm hn2), decide_eq_true (show 2 ≤ t.leaks by omega), anyB_hit (k := i) hij (by unfold wk; rw [e2, decide_eq_false (Ne.symm hn1)]; rfl)]
            simp
          · rw [hq] at hg; cases hg
theorem surely_eq (t : Tst) : t.surelyR = docSurely t := by
  unfold Tst.surelyR docSurely
  rw [err_eq]
  by_cases h0 : docErr t = 0
  · rw [if_pos h0, if_pos h0]
    have hv : t.valid = true := by
      cases hv : t.valid
      · rw [derr_no hv] at h0; cases h0
      · rfl
    have hk := Tst.ok hv
    have h1 := (bits_lt (t := t) (2 ^ t.n) (Nat.le_refl _)).2
    have e : sumB (fun i => !withoutB t i) t.n = sumB (hasB (verd t).surely) t.n := sum_congr fun s hs => by
      have e1 : hasB (verd t).surely s = (hasB (2 ^ t.n - 1) s && allB (2 ^ t.n) (fun x => !(gR t x).isSome || hasB x s)) := surely_fold t s (2 ^ t.n)
      have e2 : hasB (2 ^ t.n - 1) s = true := by rw [hasB_bit, Nat.testBit_two_pow_sub_one]; simpa using hs
      rw [e1, e2, Bool.true_and]
      cases hw : withoutB t s
      · symm
        rw [Bool.not_false, allB_iff]
        intro x hx
        cases hg : (gR t x).isSome
        · rfl
        · cases hb : hasB x s
          · rw [(without_iff hk hs).2 ⟨x, hx, hg, hb⟩] at hw; cases hw
          · rfl
      · obtain ⟨x, hx, hg, hb⟩ := (without_iff hk hs).1 hw
        symm
        exact allB_false hx (by rw [hg, hb]; rfl)
    rw [e, sum_mod]
    exact (Nat.mod_eq_of_lt h1).symm
  · rw [if_neg h0, if_neg h0]
theorem sound_eq (t : Tst) : t.soundR = docSound t := by
  unfold Tst.soundR docSound
  rw [err_eq]
  by_cases h0 : docErr t = 0
  · rw [if_pos h0, if_pos h0]
    have hv : t.valid = true := by
      cases hv : t.valid
      · rw [derr_no hv] at h0; cases h0
      · rfl
    have hk := Tst.ok hv
    have e : (verd t).sound = anyB (2 ^ t.n) (fun x => (gR t x).isSome && decide (x = 0)) := sound_fold t (2 ^ t.n)
    rw [e, Bool.eq_iff_iff, anyB_iff]
    constructor
    · rintro ⟨x, hx, h⟩
      simp only [Bool.and_eq_true, decide_eq_true_eq] at h
      obtain ⟨h, rfl⟩ := h
      rw [← zero_some hk]; exact h
    · intro h
      exact ⟨0, Nat.two_pow_pos _, by rw [zero_some hk, h]; rfl⟩
  · rw [if_neg h0, if_neg h0]
theorem leakErr_eq (t : Tst) (x : Int) : t.leakErr x = docLeakErr t x ∧ t.leakR x = docLeak t x := by
  have key : t.leakErr x = docLeakErr t x := by
    unfold Tst.leakErr docLeakErr
    cases hv : t.valid
    · rfl
    · have hk := Tst.ok hv
      rw [fits_eq hk]
      by_cases hin : 0 ≤ x ∧ x ≤ (t.n : Int) - 1
      · rw [← leak_eq hk (s := x.toNat) (by omega)]
        cases hasB (verd t).can x.toNat <;> rfl
      · rw [within_no hin]; rfl
  refine ⟨key, ?_⟩
  unfold Tst.leakR docLeak
  rw [key]
  by_cases h0 : docLeakErr t x = 0
  · rw [if_pos h0, if_pos h0]
    have hv : t.valid = true := by
      cases hv : t.valid
      · unfold docLeakErr at h0; rw [hv] at h0; cases h0
      · rfl
    have hk := Tst.ok hv
    have hin : 0 ≤ x ∧ x ≤ (t.n : Int) - 1 := by
      by_cases hin : 0 ≤ x ∧ x ≤ (t.n : Int) - 1
      · exact hin
      · unfold docLeakErr at h0; rw [hv, within_no hin] at h0; cases h0
    rw [← key] at h0
    have hb : hasB (verd t).can x.toNat = true := by
      cases hb : hasB (verd t).can x.toNat
      · unfold Tst.leakErr at h0
        rw [hv, within_yes hin, hb] at h0
        cases hf : t.fitB <;> rw [hf] at h0 <;> cases h0
      · rfl
    rw [← leak_eq hk (s := x.toNat) (by omega), hb]; rfl
  · rw [if_neg h0, if_neg h0]
end Go.Proofs.YtpognhnmkjpipaaDoor
namespace Go.Proofs.YtpognhnmkjpipaaDoor
theorem hasB_xor (a b s : Nat) : hasB (a ^^^ b) s = (hasB a s != hasB b s) := by rw [hasB_bit, hasB_bit, hasB_bit, Nat.testBit_xor]
theorem ones_sub (c s : Nat) : ∀ k, onesN c k = onesN (c &&& s) k + onesN (c ^^^ (c &&& s)) k
  | 0 => rfl
  | k + 1 => by
    unfold onesN
    rw [ones_sub c s k, hasB_xor, hasB_and]
    cases hasB c k <;> cases hasB s k <;> simp <;> omega
theorem ins_ones (c s : Nat) : ∀ k, insN c s k = onesN (c &&& s) k
  | 0 => rfl
  | k + 1 => by
    unfold insN onesN
    rw [ins_ones c s k, hasB_and]
    cases hasB c k <;> cases hasB s k <;> rfl
theorem ones_top {x n : Nat} (hx : x < 2 ^ n) : ∀ {k}, n ≤ k → onesN x k = onesN x n
  | 0, h => by
    obtain rfl : n = 0 := by omega
    rfl
  | k + 1, h => by
    by_cases hk : n = k + 1
    · subst hk; rfl
    · have hb : hasB x k = false := by
        rw [hasB_bit]
        exact Nat.testBit_lt_two_pow (Nat.lt_of_lt_of_le hx (Nat.pow_le_pow_right (by omega) (by omega)))
      show onesN x k + (if hasB x k then 1 else 0) = onesN x n
      rw [hb, ones_top hx (k := k) (by omega)]; rfl
theorem parts_eq {c s n : Nat} (hc : c < 2 ^ n) (hn : n ≤ 10) : partsI c s n = (partsN c s : Int) := by
  have h1 : c &&& s < 2 ^ n := Nat.lt_of_le_of_lt Nat.and_le_left hc
  have e1 : insN c s n = sizeN (c &&& s) := by rw [ins_ones]; unfold sizeN; exact (ones_top h1 hn).symm
  have e2 : sizeN c = sizeN (c &&& s) + sizeN (c ^^^ (c &&& s)) := ones_sub c s 10
  unfold partsI partsN
  rw [e1, e2]
  omega
theorem parts_le {c s : Nat} : partsN c s ≤ sizeN c := by
  have e2 : sizeN c = sizeN (c &&& s) + sizeN (c ^^^ (c &&& s)) := ones_sub c s 10
  unfold partsN
  omega
theorem best_eq {c n : Nat} (hc : c < 2 ^ n) (hn : n ≤ 10) (f : Nat → Nat) : ∀ k, docBest c n f (k + 1) = ((bestV c f (k + 1)).1, ((bestV c f (k + 1)).2 : Int))
  | 0 => by
    have h1 := parts_le (c := c) (s := f 0)
    have h2 := sizeN_le c
    have e1 : docBest c n f 1 = if partsI c (f 0) n < (sizeN c : Int) + 1 then (0, partsI c (f 0) n) else docBest c n f 0 := rfl
    have e2 : bestV c f 1 = if partsN c (f 0) < 11 then (0, partsN c (f 0)) else (0, 11) := rfl
    rw [e1, e2, parts_eq hc hn, if_pos (by omega), if_pos (by omega)]
  | k + 1 => by
    have ih := best_eq hc hn f k
    have e1 : docBest c n f (k + 1 + 1) = if partsI c (f (k + 1)) n < (docBest c n f (k + 1)).2 then (k + 1, partsI c (f (k + 1)) n) else docBest c n f (k + 1) := rfl
    have e2 : bestV c f (k + 1 + 1) = if partsN c (f (k + 1)) < (bestV c f (k + 1)).2 then (k + 1, partsN c (f (k + 1))) else bestV c f (k + 1) := rfl
    rw [e1, e2, ih, parts_eq hc hn]
    by_cases h : partsN c (f (k + 1)) < (bestV c f (k + 1)).2
    · rw [if_pos h, if_pos (by dsimp only; omega)]
    · rw [if_neg h, if_neg (by dsimp only; omega)]
theorem docCan_verd {t : Tst} (hv : t.valid = true) (hf : fitsB t = true) : docCan t = (verd t).can := by
  rw [← can_eq]
  unfold Tst.canR
  rw [err_eq, derr_zero hv hf, if_pos rfl]
theorem nextErr_eq (t : Tst) (m : Nat) (v : Nat → Int) : t.nextErr m v = docNextErr t m v := by
  unfold Tst.nextErr docNextErr
  cases hv : t.valid
  · rfl
  · rw [fits_eq (Tst.ok hv)]
    cases hf : fitsB t
    · simp
    · rw [docCan_verd hv hf]
theorem next_eq (t : Tst) (m : Nat) (v : Nat → Int) : docNext t m v = ((t.nextR m v).1, ((t.nextR m v).2 : Int)) := by
  unfold docNext Tst.nextR
  rw [nextErr_eq]
  by_cases h0 : docNextErr t m v = 0
  · rw [if_pos h0, if_pos h0]
    unfold docNextErr at h0
    cases hv : t.valid
    · rw [hv] at h0; cases h0
    · rw [hv] at h0
      cases hf : fitsB t
      · rw [hf] at h0
        split at h0
        · split at h0
          · split at h0 <;> cases h0
          · cases h0
        · cases h0
      · rw [hf] at h0
        have hm : m ≠ 0 := fun hm => by
          subst hm
          split at h0
          · split at h0
            · split at h0
              · cases h0
              · simp at h0
            · cases h0
          · cases h0
        obtain ⟨k, rfl⟩ : ∃ k, m = k + 1 := ⟨m - 1, by omega⟩
        rw [docCan_verd hv hf]
        exact best_eq (bits_lt (t := t) (2 ^ t.n) (Nat.le_refl _)).1 (Tst.ok hv).n2 _ _
  · rw [if_neg h0, if_neg h0]; rfl
end Go.Proofs.YtpognhnmkjpipaaDoor
