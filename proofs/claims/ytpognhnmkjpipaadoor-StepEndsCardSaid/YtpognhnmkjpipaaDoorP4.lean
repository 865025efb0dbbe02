/- The sets that fit are the document's truths; plain, no program in sight. -/
import Derived.Test.YtpognhnmkjpipaaDoorR10
namespace Go.Proofs.YtpognhnmkjpipaaDoor
theorem hasB_bit (x i : Nat) : hasB x i = x.testBit i := by
  unfold hasB
  rw [Nat.testBit_eq_decide_div_mod_eq]
theorem allB_succ (n : Nat) (p : Nat → Bool) : allB (n + 1) p = (allB n p && p n) := by simp [allB, List.range_succ, List.all_append]
theorem anyB_succ (n : Nat) (p : Nat → Bool) : anyB (n + 1) p = (anyB n p || p n) := by simp [anyB, List.range_succ, List.any_append]
theorem few_all : (List.range 1024).all (fun x => decide (2 < sizeN x ∨ x = 0 ∨ ∃ i, i < 10 ∧ (x = 2 ^ i ∨ ∃ j, j < 10 ∧ i < j ∧ x = 2 ^ i + 2 ^ j))) = true := by kernel_rfl
theorem few {x : Nat} (hx : x < 1024) (h : sizeN x ≤ 2) : x = 0 ∨ (∃ i, i < 10 ∧ x = 2 ^ i) ∨ ∃ i j, i < 10 ∧ j < 10 ∧ i < j ∧ x = 2 ^ i + 2 ^ j := by
  rcases of_decide_eq_true (List.all_eq_true.1 few_all x (List.mem_range.2 hx)) with h1 | h1 | ⟨i, hi, h1 | ⟨j, hj, hij, h1⟩⟩
  · omega
  · exact .inl h1
  · exact .inr (.inl ⟨i, hi, h1⟩)
  · exact .inr (.inr ⟨i, j, hi, hj, hij, h1⟩)
theorem one_all : (List.range 10).all (fun i => decide (2 ^ i < 1024 ∧ stL (2 ^ i) = [i] ∧ sizeN (2 ^ i) = 1 ∧ ∀ s, s < 10 → hasB (2 ^ i) s = decide (s = i))) = true := by kernel_rfl
theorem one_st {i : Nat} (hi : i < 10) : 2 ^ i < 1024 ∧ stL (2 ^ i) = [i] ∧ sizeN (2 ^ i) = 1 ∧ ∀ s, s < 10 → hasB (2 ^ i) s = decide (s = i) := of_decide_eq_true (List.all_eq_true.1 one_all i (List.mem_range.2 hi))
theorem two_all : (List.range 10).all (fun i => (List.range 10).all (fun j => decide (i < j → 2 ^ i + 2 ^ j < 1024 ∧ stL (2 ^ i + 2 ^ j) = [i, j] ∧ sizeN (2 ^ i + 2 ^ j) = 2 ∧ ∀ s, s < 10 → hasB (2 ^ i + 2 ^ j) s = (decide (s = i) || decide (s = j))))) = true := by kernel_rfl
theorem two_st {i j : Nat} (hi : i < 10) (hj : j < 10) (hij : i < j) : 2 ^ i + 2 ^ j < 1024 ∧ stL (2 ^ i + 2 ^ j) = [i, j] ∧ sizeN (2 ^ i + 2 ^ j) = 2 ∧ ∀ s, s < 10 → hasB (2 ^ i + 2 ^ j) s = (decide (s = i) || decide (s = j)) :=
  of_decide_eq_true (List.all_eq_true.1 (List.all_eq_true.1 two_all i (List.mem_range.2 hi)) j (List.mem_range.2 hj)) hij
theorem zero_st : stL 0 = [] ∧ sizeN 0 = 0 ∧ ∀ s, s < 10 → hasB 0 s = false := by decide
theorem op_nil (sh : Nat) : opSt sh [] = (0, 0) := rfl
theorem op_one (sh i : Nat) : opSt sh [i] = if hasB sh i then (0, 0) else (1, 0) := by
  unfold opSt
  simp only [List.foldl_cons, List.foldl_nil]
theorem op_two (sh i j : Nat) : opSt sh [i, j] = if hasB sh i then (if hasB sh j then (0, 0) else (1, 1)) else (if hasB sh j then (1, 0) else (2, 1)) := by
  unfold opSt
  simp only [List.foldl_cons, List.foldl_nil]
  cases hasB sh i <;> cases hasB sh j <;> rfl
theorem in0_iff {s : Spn} : in0 s = true ↔ ¬ (0 < s.lo ∨ s.hi < 0) := by
  simp only [in0, withinB, decide_eq_true_eq]; omega
theorem in0_no {s : Spn} (h : in0 s = false) : 0 < s.lo ∨ s.hi < 0 := by
  by_cases h9 : 0 < s.lo ∨ s.hi < 0
  · exact h9
  · rw [in0_iff.2 h9] at h; cases h
/-- the empty set -/
theorem gK_nil (t : Tst) : ∀ k, gK t 0 k = if allB k (fun i => in0 (t.rest i).flow) then some (anyP t.least) else none
  | 0 => rfl
  | k + 1 => by
    unfold gK
    rw [gK_nil t k, allB_succ]
    cases ha : allB k (fun i => in0 (t.rest i).flow)
    · rfl
    · simp only [if_true, Option.bind_some, Bool.true_and]
      unfold cutO
      rw [zero_st.1, op_nil]
      cases hin : in0 (t.rest k).flow
      · rw [if_pos ⟨rfl, in0_no hin⟩]; rfl
      · rw [if_neg (fun h => in0_iff.1 hin h.2), if_neg (by decide), if_neg (fun h => by cases h.1), if_neg (by decide)]; rfl
/-- one street -/
theorem gK_one (t : Tst) {i : Nat} (hi : i < 10) : ∀ k, gK t (2 ^ i) k = if allB k (oneP t i) then some ⟨oneK t i k, ⟨t.least, 1073741824⟩, ⟨0, 2147483648⟩⟩ else none
  | 0 => rfl
  | k + 1 => by
    unfold gK
    rw [gK_one t hi k, allB_succ]
    cases ha : allB k (oneP t i)
    · rfl
    · simp only [if_true, Option.bind_some, Bool.true_and]
      unfold cutO
      rw [(one_st hi).2.1, op_one]
      have hs : (t.rest k).shut = (t.s k).shut := rfl
      rw [hs]
      have hk : oneK t i (k + 1) = if hasB (t.s k).shut.toNat i then oneK t i k else cutS (oneK t i k) (t.rest k).flow := rfl
      rw [hk]
      cases hb : hasB (t.s k).shut.toNat i
      · have hp : oneP t i k = true := by unfold oneP; rw [hb]; rfl
        rw [hp]
        rw [if_neg (fun h => by cases h.1), if_neg (by decide), if_pos ⟨rfl, rfl⟩]; rfl
      · cases hin : in0 (t.rest k).flow
        · have hp : oneP t i k = false := by unfold oneP; rw [hb, hin]; rfl
          rw [hp, if_pos ⟨rfl, in0_no hin⟩]; rfl
        · have hp : oneP t i k = true := by unfold oneP; rw [hin]; simp
          rw [hp, if_neg (fun h => in0_iff.1 hin h.2), if_neg (by decide), if_neg (fun h => by cases h.1), if_neg (by decide)]; rfl
/-- two streets -/
theorem gK_two (t : Tst) (hL : 0 ≤ t.least) {i j : Nat} (hi : i < 10) (hj : j < 10) (hij : i < j) : ∀ k, (allB k (twoP t i j) = false → gK t (2 ^ i + 2 ^ j) k = none) ∧
    (allB k (twoP t i j) = true → ∃ c : Spn, gK t (2 ^ i + 2 ^ j) k = some ⟨(twoK t i j k).a, (twoK t i j k).b, c⟩ ∧ (twoK t i j k).c.lo = max c.lo (2 * t.least) ∧ (twoK t i j k).c.hi = c.hi ∧ t.least ≤ (twoK t i j k).a.lo ∧ t.least ≤ (twoK t i j k).b.lo)
  | 0 => by
    refine ⟨fun h => by simp [allB] at h, fun _ => ⟨⟨0, 2147483648⟩, rfl, by show 2 * t.least = max 0 (2 * t.least); omega, rfl, Int.le_refl _, Int.le_refl _⟩⟩
  | k + 1 => by
    obtain ⟨h0, h1⟩ := gK_two t hL hi hj hij k
    rw [allB_succ]
    cases ha : allB k (twoP t i j)
    · refine ⟨fun _ => ?_, fun h => by simp at h⟩
      unfold gK
      rw [h0 ha]; rfl
    · obtain ⟨c, hg, hc1, hc2, hc3, hc4⟩ := h1 ha
      have hk : twoK t i j (k + 1) = stepT (twoK t i j k) (t.s k).shut.toNat i j (t.rest k).flow := rfl
      unfold gK
      rw [hg, hk]
      simp only [Option.bind_some, Bool.true_and]
      unfold cutO
      rw [(two_st hi hj hij).2.1, op_two]
      have hs : (t.rest k).shut = (t.s k).shut := rfl
      rw [hs]
      unfold stepT twoP
      cases hb : hasB (t.s k).shut.toNat i <;> cases hb2 : hasB (t.s k).shut.toNat j
      · refine ⟨fun h => by simp at h, fun _ => ⟨cutS c (t.rest k).flow, ?_⟩⟩
        simp [cutS]; omega
      · refine ⟨fun h => by simp at h, fun _ => ⟨c, ?_⟩⟩
        simp [cutS]; omega
      · refine ⟨fun h => by simp at h, fun _ => ⟨c, ?_⟩⟩
        simp [cutS]; omega
      · refine ⟨fun h => ?_, fun h => ⟨c, ?_⟩⟩
        · have h9 := in0_no (s := (t.rest k).flow) (by simpa using h)
          simp [h9]
        · have h9 : in0 (t.rest k).flow = true := by simpa using h
          have h8 := in0_iff.1 h9
          simp [h8]; omega
end Go.Proofs.YtpognhnmkjpipaaDoor
