/- What a set that fits says is what the document's one and two say; plain, no program in sight. -/
import Derived.Test.YtpognhnmkjpipaaDoorP4
namespace Go.Proofs.YtpognhnmkjpipaaDoor
theorem any_can {l : Int} (h : l ≤ 1073741824) : (anyP l).can = true := by
  unfold Pr.can anyP
  simp; omega
theorem gR_nil {t : Tst} (hk : t.Ok) : gR t 0 = if t.noneB then some (anyP t.least) else none := by
  have h0 := hk.l0
  have h1 := hk.e1
  unfold gR
  rw [zero_st.2.1, if_neg (by omega), gK_nil]
  have e : allB t.m (fun i => in0 (t.rest i).flow) = t.noneB := rfl
  rw [e]
  cases t.noneB
  · rfl
  · have e2 : narrowI 0 (anyP t.least) = anyP t.least := by unfold narrowI; rw [zero_st.2.1]; rfl
    simp only [if_true, Option.bind_some]
    rw [e2, any_can h1]; rfl
theorem gR_one {t : Tst} (hk : t.Ok) {i : Nat} (hi : i < 10) : gR t (2 ^ i) = if t.leaks < 1 then none else (oneR t i).map fun s => ⟨s, ⟨t.least, 1073741824⟩, ⟨0, 2147483648⟩⟩ := by
  have h1 := hk.e1
  unfold gR
  rw [(one_st hi).2.2.1, gK_one t hi]
  have ec : ((1 : Nat) : Int) = 1 := rfl
  rw [ec]
  by_cases hl : t.leaks < 1
  · rw [if_pos hl, if_pos hl]
  · rw [if_neg hl, if_neg hl]
    have en : ∀ p, narrowI (2 ^ i) p = p := fun p => by unfold narrowI; rw [(one_st hi).2.2.1]; rfl
    simp only [en]
    unfold oneR
    cases allB t.m (oneP t i)
    · rfl
    · simp only [if_true, Option.bind_some, Bool.true_and]
      have ecn : (⟨oneK t i t.m, ⟨t.least, 1073741824⟩, ⟨0, 2147483648⟩⟩ : Pr).can = decide ((oneK t i t.m).lo ≤ (oneK t i t.m).hi) := by
        unfold Pr.can
        rw [Bool.eq_iff_iff]; simp; omega
      rw [ecn]
      cases decide ((oneK t i t.m).lo ≤ (oneK t i t.m).hi) <;> rfl
theorem can_iff {p : Pr} : p.can = true ↔ p.a.lo ≤ p.a.hi ∧ p.b.lo ≤ p.b.hi ∧ p.c.lo ≤ p.c.hi := by
  unfold Pr.can
  simp
theorem twoB_iff {p : Pr} : twoB p = true ↔ (p.b.lo ≤ p.b.hi ∧ p.c.lo ≤ p.c.hi) ∧ (endT p).lo ≤ (endT p).hi := by
  unfold twoB
  simp
theorem pair_law {a b c c' : Spn} {L : Int} (h1 : c.lo = max c'.lo (2 * L)) (h2 : c.hi = c'.hi) (ha : L ≤ a.lo) (hb : L ≤ b.lo) :
    (Pr.narrow ⟨a, b, c'⟩).can = twoB ⟨a, b, c⟩ ∧ (twoB ⟨a, b, c⟩ = true → endT ⟨a, b, c⟩ = (Pr.narrow ⟨a, b, c'⟩).a) := by
  constructor
  · rw [Bool.eq_iff_iff, can_iff, twoB_iff]
    simp only [Pr.narrow, endT, cutS]
    constructor
    · rintro ⟨x1, x2, x3⟩; omega
    · rintro ⟨⟨x1, x2⟩, x3⟩; omega
  · intro h
    rw [twoB_iff] at h
    simp only [endT, cutS] at h
    simp only [Pr.narrow, endT, cutS, Spn.mk.injEq]
    omega
theorem pair_swap {a b c : Spn} : (Pr.narrow ⟨b, a, c⟩).can = (Pr.narrow ⟨a, b, c⟩).can ∧ (Pr.narrow ⟨b, a, c⟩).a = (Pr.narrow ⟨a, b, c⟩).b := by
  refine ⟨?_, rfl⟩
  rw [Bool.eq_iff_iff, can_iff, can_iff]
  constructor
  · rintro ⟨x1, x2, x3⟩; exact ⟨x2, x1, x3⟩
  · rintro ⟨x1, x2, x3⟩; exact ⟨x2, x1, x3⟩
theorem twoP_swap (t : Tst) (i j : Nat) : twoP t j i = twoP t i j := by
  funext k
  unfold twoP
  rw [Bool.or_comm (!hasB (t.s k).shut.toNat j)]
theorem twoK_swap (t : Tst) (i j : Nat) : ∀ k, twoK t j i k = ⟨(twoK t i j k).b, (twoK t i j k).a, (twoK t i j k).c⟩
  | 0 => rfl
  | k + 1 => by
    have h1 : twoK t j i (k + 1) = stepT (twoK t j i k) (t.s k).shut.toNat j i (t.rest k).flow := rfl
    have h2 : twoK t i j (k + 1) = stepT (twoK t i j k) (t.s k).shut.toNat i j (t.rest k).flow := rfl
    rw [h1, h2, twoK_swap t i j k]
    unfold stepT
    cases hasB (t.s k).shut.toNat i <;> cases hasB (t.s k).shut.toNat j <;> rfl
theorem gR_two {t : Tst} (hk : t.Ok) {i j : Nat} (hi : i < 10) (hj : j < 10) (hij : i < j) :
    (t.leaks < 2 → gR t (2 ^ i + 2 ^ j) = none) ∧ (2 ≤ t.leaks → (∃ p, gR t (2 ^ i + 2 ^ j) = some p ∧ twoR t i j = some p.a ∧ twoR t j i = some p.b) ∨ (gR t (2 ^ i + 2 ^ j) = none ∧ twoR t i j = none ∧ twoR t j i = none)) := by
  have he := hk.e0
  have ec : ((2 : Nat) : Int) = 2 := rfl
  have en : ∀ p, narrowI (2 ^ i + 2 ^ j) p = p.narrow := fun p => by unfold narrowI; rw [(two_st hi hj hij).2.2.1]; rfl
  obtain ⟨g0, g1⟩ := gK_two t (by omega) hi hj hij t.m
  constructor
  · intro hl
    unfold gR
    rw [(two_st hi hj hij).2.2.1, ec, if_pos hl]
  · intro hl
    have eR : gR t (2 ^ i + 2 ^ j) = (gK t (2 ^ i + 2 ^ j) t.m).bind fun p => if p.narrow.can then some p.narrow else none := by
      unfold gR
      rw [(two_st hi hj hij).2.2.1, ec, if_neg (by omega)]
      simp only [en]
    rw [eR]
    cases ha : allB t.m (twoP t i j)
    · right
      rw [g0 ha]
      refine ⟨rfl, ?_, ?_⟩
      · unfold twoR; rw [ha]; rfl
      · unfold twoR; rw [twoP_swap, ha]; rfl
    · obtain ⟨c, hg, hc1, hc2, hc3, hc4⟩ := g1 ha
      rw [hg]
      simp only [Option.bind_some]
      have e1 := twoR_eq ha
      have e2 := twoR_eq (x1 := j) (x2 := i) (show allB t.m (twoP t j i) = true by rw [twoP_swap]; exact ha)
      rw [twoK_swap] at e2
      rw [e1, e2]
      obtain ⟨p1, p2⟩ := pair_law (a := (twoK t i j t.m).a) (b := (twoK t i j t.m).b) hc1 hc2 hc3 hc4
      obtain ⟨q1, q2⟩ := pair_law (a := (twoK t i j t.m).b) (b := (twoK t i j t.m).a) hc1 hc2 hc4 hc3
      obtain ⟨s1, s2⟩ := pair_swap (a := (twoK t i j t.m).a) (b := (twoK t i j t.m).b) (c := c)
      rw [s1] at q1
      rw [s2] at q2
      have eK : (⟨(twoK t i j t.m).a, (twoK t i j t.m).b, (twoK t i j t.m).c⟩ : Pr) = twoK t i j t.m := rfl
      rw [eK] at p1 p2
      rw [← q1, ← p1]
      rw [← p1] at p2
      rw [← q1] at q2
      cases hcan : (Pr.narrow ⟨(twoK t i j t.m).a, (twoK t i j t.m).b, c⟩).can
      · exact .inr ⟨rfl, rfl, rfl⟩
      · exact .inl ⟨_, rfl, by rw [if_pos rfl, p2 hcan], by rw [if_pos rfl, q2 hcan]⟩
end Go.Proofs.YtpognhnmkjpipaaDoor
