/- Travel, plain: the document's narrow: numbers that are made less, rule by rule and round by round, come to rest just if the rules can be kept. -/
import Derived.Test.YtldodmfmibeoiaaDoorP2
namespace Go.Proofs.YtldodmfmibeoiaaDoor
open Go.RowKit
/-- the number a is at most the number b, and m together -/
structure Rul where
  a : Nat
  b : Nat
  m : Int
/-- a rule does not hold yet -/
def Rul.Cut (u : Rul) (x : Nat → Int) : Prop := x u.b < 1073741824 ∧ x u.b + u.m < x u.a
instance (u : Rul) (x : Nat → Int) : Decidable (u.Cut x) := by unfold Rul.Cut; exact inferInstance
def relax (u : Rul) (x : Nat → Int) : Nat → Int := fun i => if i = u.a ∧ u.Cut x then x u.b + u.m else x i
def runR (ru : Nat → Rul) (x : Nat → Int) : Nat → Nat → Int
  | 0 => x
  | k + 1 => relax (ru k) (runR ru x k)
def stillR (ru : Nat → Rul) (x : Nat → Int) : Nat → Bool
  | 0 => true
  | k + 1 => stillR ru x k && !decide ((ru k).Cut (runR ru x k))
def itR (ru : Nat → Rul) (n : Nat) (x : Nat → Int) : Nat → Nat → Int
  | 0 => x
  | r + 1 => runR ru (itR ru n x r) n
def Stab (ru : Nat → Rul) (n : Nat) (x : Nat → Int) : Prop := ∀ j, j < n → ¬ (ru j).Cut x
theorem relax_no {u : Rul} {x : Nat → Int} (h : ¬ u.Cut x) : relax u x = x := by
  funext i; unfold relax; rw [if_neg (fun h9 => h h9.2)]
theorem relax_le (u : Rul) (x : Nat → Int) (i : Nat) : relax u x i ≤ x i := by
  unfold relax
  split
  · rename_i h; have := h.2.2; rw [h.1]; omega
  · exact Int.le_refl _
theorem runR_le (ru : Nat → Rul) (x : Nat → Int) (i j : Nat) : ∀ k, j ≤ k → runR ru x k i ≤ runR ru x j i
  | 0, h => by obtain rfl : j = 0 := by omega
               exact Int.le_refl _
  | k + 1, h => by
    by_cases h9 : j = k + 1
    · subst h9; exact Int.le_refl _
    · exact Int.le_trans (relax_le _ _ _) (runR_le ru x i j k (by omega))
theorem still_iff (ru : Nat → Rul) (x : Nat → Int) : ∀ k, (stillR ru x k = true → runR ru x k = x ∧ Stab ru k x) ∧ (Stab ru k x → stillR ru x k = true)
  | 0 => ⟨fun _ => ⟨rfl, fun j hj => by omega⟩, fun _ => rfl⟩
  | k + 1 => by
    obtain ⟨h1, h2⟩ := still_iff ru x k
    constructor
    · intro h
      simp only [stillR, Bool.and_eq_true, Bool.not_eq_true', decide_eq_false_iff_not] at h
      obtain ⟨e1, e2⟩ := h1 h.1
      have h3 := h.2
      rw [e1] at h3
      refine ⟨?_, fun j hj => ?_⟩
      · show relax (ru k) (runR ru x k) = x
        rw [e1, relax_no h3]
      · by_cases h9 : j = k
        · subst h9; exact h3
        · exact e2 j (by omega)
    · intro h
      have h3 := h2 fun j hj => h j (by omega)
      simp only [stillR, Bool.and_eq_true, Bool.not_eq_true', decide_eq_false_iff_not]
      refine ⟨h3, ?_⟩
      rw [(h1 h3).1]
      exact h k (by omega)
theorem runR_stab {ru : Nat → Rul} {n : Nat} {x : Nat → Int} (h : Stab ru n x) : runR ru x n = x := ((still_iff ru x n).1 ((still_iff ru x n).2 h)).1
theorem itR_stab {ru : Nat → Rul} {n : Nat} {x : Nat → Int} (h : Stab ru n x) : ∀ r, itR ru n x r = x
  | 0 => rfl
  | r + 1 => by show runR ru (itR ru n x r) n = x; rw [itR_stab h r, runR_stab h]
theorem itR_add (ru : Nat → Rul) (n : Nat) (x : Nat → Int) (r : Nat) : ∀ s, itR ru n x (r + s) = itR ru n (itR ru n x r) s
  | 0 => rfl
  | s + 1 => by show runR ru (itR ru n x (r + s)) n = runR ru (itR ru n (itR ru n x r) s) n; rw [itR_add ru n x r s]
theorem itR_le (ru : Nat → Rul) (n : Nat) (x : Nat → Int) (i : Nat) : ∀ r, itR ru n x r i ≤ x i
  | 0 => Int.le_refl _
  | r + 1 => Int.le_trans (runR_le ru _ i 0 n (by omega)) (itR_le ru n x i r)
theorem runR_ge {ru : Nat → Rul} {n : Nat} {G x : Nat → Int} (h : Stab ru n G) (hx : ∀ i, G i ≤ x i) : ∀ k, k ≤ n → ∀ i, G i ≤ runR ru x k i
  | 0, _, i => hx i
  | k + 1, hk, i => by
    have ih := runR_ge h hx k (by omega)
    show G i ≤ relax (ru k) (runR ru x k) i
    unfold relax
    split
    · rename_i h9
      have h1 := h k (by omega)
      unfold Rul.Cut at h1
      have h2 := h9.2.1
      have h3 := ih (ru k).b
      rw [h9.1]
      omega
    · exact ih i
theorem itR_ge {ru : Nat → Rul} {n : Nat} {G x : Nat → Int} (h : Stab ru n G) (hx : ∀ i, G i ≤ x i) : ∀ r i, G i ≤ itR ru n x r i
  | 0, i => hx i
  | r + 1, i => runR_ge h (fun i => itR_ge h hx r i) n (Nat.le_refl _) i
/-- how far numbers are above others, together -/
def gapS (G x : Nat → Int) : Nat → Nat
  | 0 => 0
  | i + 1 => gapS G x i + (x i - G i).toNat
theorem gapS_le {G x y : Nat → Int} (h : ∀ i, x i ≤ y i) : ∀ n, gapS G x n ≤ gapS G y n
  | 0 => Nat.le_refl _
  | n + 1 => by have := gapS_le (G := G) h n; have := h n; unfold gapS; omega
theorem gapS_lt {G x y : Nat → Int} (h : ∀ i, x i ≤ y i) {j : Nat} (h2 : G j ≤ x j) (h3 : x j < y j) : ∀ n, j < n → gapS G x n < gapS G y n
  | 0, hj => by omega
  | n + 1, hj => by
    unfold gapS
    by_cases h9 : j = n
    · subst h9; have := gapS_le (G := G) h j; omega
    · have := gapS_lt h h2 h3 n (by omega); have := h n; omega
theorem not_stab {ru : Nat → Rul} {n : Nat} {x : Nat → Int} (h : ¬ Stab ru n x) : ∃ j, j < n ∧ runR ru x n (ru j).a < x (ru j).a := by
  have hs : stillR ru x n ≠ true := fun h9 => h ((still_iff ru x n).1 h9).2
  clear h
  induction n with
  | zero => exact absurd rfl hs
  | succ n ih =>
    by_cases h1 : stillR ru x n = true
    · have h2 : (ru n).Cut (runR ru x n) := by
        false_or_by_contra
        rename_i h9
        exact hs (by simp [stillR, h1, h9])
      refine ⟨n, by omega, ?_⟩
      have h3 : runR ru x (n + 1) (ru n).a = runR ru x n (ru n).b + (ru n).m := by
        show relax (ru n) (runR ru x n) (ru n).a = _
        unfold relax
        rw [if_pos ⟨rfl, h2⟩]
      have h4 := h2.2
      rw [((still_iff ru x n).1 h1).1] at h3 h4
      omega
    · obtain ⟨j, hj, h2⟩ := ih h1
      exact ⟨j, by omega, Int.lt_of_le_of_lt (relax_le _ _ _) h2⟩
/-- from numbers above some that keep the rules, it comes to rest -/
theorem rests {ru : Nat → Rul} {n N : Nat} {G : Nat → Int} (hN : ∀ j, j < n → (ru j).a < N) (hG : Stab ru n G) : ∀ (c : Nat) (x : Nat → Int), gapS G x N ≤ c → (∀ i, G i ≤ x i) → ∃ T, Stab ru n (itR ru n x T)
  | c, x, hc, hx => by
    by_cases h : Stab ru n x
    · exact ⟨0, h⟩
    · obtain ⟨j, hj, h2⟩ := not_stab h
      have h3 := gapS_lt (G := G) (fun i => runR_le ru x i 0 n (by omega)) (runR_ge hG hx n (Nat.le_refl _) _) h2 N (hN j hj)
      change gapS G (runR ru x n) N < gapS G x N at h3
      match c, hc with
      | 0, hc => omega
      | c + 1, hc =>
        obtain ⟨T, hT⟩ := rests hN hG c (runR ru x n) (by omega) (runR_ge hG hx n (Nat.le_refl _))
        refine ⟨1 + T, ?_⟩
        rw [itR_add]
        exact hT
/-- how many numbers are the same -/
def eqs (F x : Nat → Int) : Nat → Nat
  | 0 => 0
  | i + 1 => eqs F x i + (if x i = F i then 1 else 0)
theorem eqs_le (F x : Nat → Int) : ∀ n, eqs F x n ≤ n
  | 0 => Nat.le_refl _
  | n + 1 => by have := eqs_le F x n; unfold eqs; split <;> omega
theorem eqs_mono {F x y : Nat → Int} (h : ∀ i, x i = F i → y i = F i) : ∀ n, eqs F x n ≤ eqs F y n
  | 0 => Nat.le_refl _
  | n + 1 => by
    have := eqs_mono h n
    have h1 := h n
    unfold eqs
    by_cases h9 : x n = F n
    · rw [if_pos h9, if_pos (h1 h9)]; omega
    · rw [if_neg h9]; omega
theorem eqs_lt {F x y : Nat → Int} (h : ∀ i, x i = F i → y i = F i) {j : Nat} (h2 : x j ≠ F j) (h3 : y j = F j) : ∀ n, j < n → eqs F x n < eqs F y n
  | 0, hj => by omega
  | n + 1, hj => by
    unfold eqs
    by_cases h9 : j = n
    · subst h9; have := eqs_mono h j; rw [if_neg h2, if_pos h3]; omega
    · have := eqs_lt h h2 h3 n (by omega)
      by_cases h8 : x n = F n
      · rw [if_pos h8, if_pos (h n h8)]; omega
      · rw [if_neg h8]; omega
theorem eqs_all {F x : Nat → Int} : ∀ {n}, n ≤ eqs F x n → ∀ i, i < n → x i = F i
  | 0, _, i, hi => by omega
  | n + 1, h, i, hi => by
    have h1 := eqs_le F x n
    unfold eqs at h
    by_cases h9 : x n = F n
    · rw [if_pos h9] at h
      by_cases h8 : i = n
      · subst h8; exact h9
      · exact eqs_all (n := n) (by omega) i (by omega)
    · rw [if_neg h9] at h; omega
/-- each round brings one number more to its end -/
theorem one_more {ru : Nat → Rul} {n N : Nat} {F x : Nat → Int} {s : Nat} (hN : ∀ j, j < n → (ru j).a < N ∧ (ru j).b < N) (hF : Stab ru n F) (hs : itR ru n x s = F) (hx : ∀ i, F i ≤ x i) (hne : ∃ i, i < N ∧ x i ≠ F i) : eqs F x N < eqs F (runR ru x n) N := by
  obtain ⟨i0, hi0, hne⟩ := hne
  have hstay : ∀ i, x i = F i → runR ru x n i = F i := fun i hi => by
    have h1 := runR_ge hF hx n (Nat.le_refl _) i
    have h2 := runR_le ru x i 0 n (by omega)
    change _ ≤ x i at h2
    omega
  by_cases hG : Stab ru n (fun i => if i < N ∧ F i < x i then F i + 1 else F i)
  · have h1 := itR_ge hG (x := x) (fun i => by
      split
      · rename_i h9; omega
      · exact hx i) s i0
    rw [hs] at h1
    have h2 := hx i0
    rw [if_pos ⟨hi0, by omega⟩] at h1
    omega
  · have hG2 : ∃ j, j < n ∧ (ru j).Cut (fun i => if i < N ∧ F i < x i then F i + 1 else F i) := by
      false_or_by_contra
      rename_i h9
      exact hG fun j hj h8 => h9 ⟨j, hj, h8⟩
    obtain ⟨j, hj, hc⟩ := hG2
    have hf := hF j hj
    obtain ⟨na, nb⟩ := hN j hj
    unfold Rul.Cut at hc hf
    simp only at hc
    have hxa := hx (ru j).a
    have hxb := hx (ru j).b
    have ea : (if (ru j).a < N ∧ F (ru j).a < x (ru j).a then F (ru j).a + 1 else F (ru j).a) = if F (ru j).a < x (ru j).a then F (ru j).a + 1 else F (ru j).a := by simp only [na, true_and]
    have eb : (if (ru j).b < N ∧ F (ru j).b < x (ru j).b then F (ru j).b + 1 else F (ru j).b) = if F (ru j).b < x (ru j).b then F (ru j).b + 1 else F (ru j).b := by simp only [nb, true_and]
    rw [ea, eb] at hc
    have hab : F (ru j).a < x (ru j).a ∧ x (ru j).b = F (ru j).b ∧ F (ru j).a = F (ru j).b + (ru j).m ∧ F (ru j).b < 1073741824 := by
      clear ea eb
      split at hc <;> split at hc <;> omega
    obtain ⟨h1, h2, h3, h4⟩ := hab
    refine eqs_lt hstay (j := (ru j).a) (by omega) ?_ N na
    have l1 := runR_ge hF hx n (Nat.le_refl _) (ru j).a
    have l2 := runR_le ru x (ru j).a (j + 1) n (by omega)
    have l3 := runR_ge hF hx j (by omega) (ru j).b
    have l4 := runR_le ru x (ru j).b 0 j (by omega)
    change _ ≤ x _ at l4
    have l5 : runR ru x (j + 1) (ru j).a ≤ F (ru j).a := by
      show relax (ru j) (runR ru x j) (ru j).a ≤ _
      unfold relax
      by_cases h9 : (ru j).Cut (runR ru x j)
      · rw [if_pos ⟨rfl, h9⟩]; omega
      · rw [if_neg (fun h => h9 h.2)]
        unfold Rul.Cut at h9
        omega
    omega
/-- after as many rounds as there are numbers it is at rest -/
theorem at_rest {ru : Nat → Rul} {n N : Nat} {G M : Nat → Int} (hN : ∀ j, j < n → (ru j).a < N ∧ (ru j).b < N) (hG : Stab ru n G) (hM : ∀ i, G i ≤ M i) : Stab ru n (itR ru n M N) := by
  obtain ⟨T, hT⟩ := rests (fun j hj => (hN j hj).1) hG _ M (Nat.le_refl (gapS G M N)) hM
  obtain ⟨F, hF⟩ : ∃ F, F = itR ru n M T := ⟨_, rfl⟩
  rw [← hF] at hT
  have hend : ∀ r, itR ru n (itR ru n M r) T = F := fun r => by
    rw [← itR_add, Nat.add_comm, itR_add, ← hF, itR_stab hT]
  have hge : ∀ r i, F i ≤ itR ru n M r i := fun r i => by
    rw [← hend r]; exact itR_le ru n _ i T
  have hcnt : ∀ r, (∀ i, i < N → itR ru n M r i = F i) ∨ r ≤ eqs F (itR ru n M r) N := by
    intro r
    induction r with
    | zero => exact .inr (Nat.zero_le _)
    | succ r ih =>
      by_cases hall : ∀ i, i < N → itR ru n M r i = F i
      · left
        intro i hi
        have h1 := hge (r + 1) i
        have h2 := runR_le ru (itR ru n M r) i 0 n (by omega)
        change itR ru n M (r + 1) i ≤ itR ru n M r i at h2
        have := hall i hi
        omega
      · right
        have h3 : ∃ i, i < N ∧ itR ru n M r i ≠ F i := by
          false_or_by_contra
          rename_i h9
          exact hall fun i hi => by
            false_or_by_contra
            rename_i h8
            exact h9 ⟨i, hi, h8⟩
        have h4 := one_more hN hT (hend r) (hge r) h3
        change _ < eqs F (itR ru n M (r + 1)) N at h4
        rcases ih with h5 | h5
        · exact absurd h5 hall
        · omega
  have hfin : ∀ i, i < N → itR ru n M N i = F i := by
    rcases hcnt N with h | h
    · exact h
    · exact eqs_all h
  intro j hj hc
  obtain ⟨na, nb⟩ := hN j hj
  refine hT j hj ?_
  unfold Rul.Cut at hc ⊢
  rw [hfin _ na, hfin _ nb] at hc
  exact hc
/-- numbers are known, or not, and not great -/
def BndR (c : Int) (x : Nat → Int) : Prop := ∀ i, x i = 1073741824 ∨ (-c ≤ x i ∧ x i ≤ c)
theorem BndR.relax {c : Int} {x : Nat → Int} {u : Rul} (h : BndR c x) (hu : -100000 ≤ u.m ∧ u.m ≤ 100000) : BndR (c + 100000) (relax u x) := fun i => by
  unfold Proofs.YtldodmfmibeoiaaDoor.relax
  split
  · rename_i h9
    have h1 := h u.b
    have h2 := h9.2.1
    omega
  · have := h i; omega
theorem BndR.run {ru : Nat → Rul} {n : Nat} {c : Int} {x : Nat → Int} (h : BndR c x) (hu : ∀ j, j < n → -100000 ≤ (ru j).m ∧ (ru j).m ≤ 100000) : ∀ k, k ≤ n → BndR (c + 100000 * (k : Nat)) (runR ru x k)
  | 0, _ => by
    rw [show c + 100000 * ((0 : Nat) : Int) = c by omega]
    exact h
  | k + 1, hk => by
    have h1 := (BndR.run h hu k (by omega)).relax (hu k (by omega))
    rw [show c + 100000 * ((k + 1 : Nat) : Int) = c + 100000 * (k : Nat) + 100000 by omega]
    exact h1
theorem BndR.it {ru : Nat → Rul} {n : Nat} {c : Int} {x : Nat → Int} (h : BndR c x) (hu : ∀ j, j < n → -100000 ≤ (ru j).m ∧ (ru j).m ≤ 100000) : ∀ r, BndR (c + 100000 * (r * n : Nat)) (itR ru n x r)
  | 0 => by
    rw [Nat.zero_mul]
    rw [show c + 100000 * ((0 : Nat) : Int) = c by omega]
    exact h
  | r + 1 => by
    have h1 := (BndR.it h hu r).run hu n (Nat.le_refl _)
    rw [show c + 100000 * (((r + 1) * n : Nat) : Int) = c + 100000 * ((r * n : Nat) : Int) + 100000 * (n : Nat) by rw [Nat.add_mul]; omega]
    exact h1
/-- numbers keep the rules -/
def SolR (ru : Nat → Rul) (n : Nat) (x : Nat → Int) : Prop := ∀ j, j < n → x (ru j).a - x (ru j).b ≤ (ru j).m
theorem top_of (x : Nat → Int) : ∀ N, ∃ C : Int, ∀ i, i < N → x i ≤ C
  | 0 => ⟨0, fun i hi => by omega⟩
  | N + 1 => by
    obtain ⟨C, h⟩ := top_of x N
    refine ⟨max C (x N), fun i hi => ?_⟩
    by_cases h9 : i = N
    · subst h9; omega
    · have := h i (by omega); omega
theorem low_of (x : Nat → Int) (N : Nat) : ∃ C : Int, ∀ i, i < N → C ≤ x i := by
  obtain ⟨C, h⟩ := top_of (fun i => -x i) N
  exact ⟨-C, fun i hi => by have := h i hi; omega⟩
/-- numbers that keep the rules, as low as is wanted -/
theorem SolR.low {ru : Nat → Rul} {n N : Nat} {x : Nat → Int} (h : SolR ru n x) (hN : ∀ j, j < n → (ru j).a < N ∧ (ru j).b < N) : ∃ G, Stab ru n G ∧ ∀ i, G i ≤ 0 := by
  obtain ⟨C, hC⟩ := top_of x N
  refine ⟨fun i => if i < N then x i - C else 0, fun j hj hc => ?_, fun i => ?_⟩
  · obtain ⟨na, nb⟩ := hN j hj
    unfold Rul.Cut at hc
    simp only [if_pos na, if_pos nb] at hc
    have := h j hj
    omega
  · by_cases h9 : i < N
    · show (if i < N then _ else _) ≤ _
      rw [if_pos h9]; have := hC i h9; omega
    · show (if i < N then _ else _) ≤ _
      rw [if_neg h9]; omega
/-- the document's fits: from zeros it comes to rest just if the rules can be kept -/
theorem zeros_law {ru : Nat → Rul} {n N : Nat} (hN : ∀ j, j < n → (ru j).a < N ∧ (ru j).b < N) : (∃ r, r ≤ N ∧ stillR ru (itR ru n (fun _ => 0) r) n = true) ↔ ∃ x, SolR ru n x := by
  constructor
  · intro ⟨r, _, h⟩
    have h1 := ((still_iff ru _ n).1 h).2
    refine ⟨itR ru n (fun _ => 0) r, fun j hj => ?_⟩
    have h2 := h1 j hj
    have h3 := itR_le ru n (fun _ => 0) (ru j).b r
    unfold Rul.Cut at h2
    change _ ≤ (0 : Int) at h3
    generalize itR ru n (fun _ => 0) r = z at *
    omega
  · intro ⟨x, hx⟩
    obtain ⟨G, hG, h0⟩ := hx.low hN
    exact ⟨N, Nat.le_refl _, (still_iff ru _ n).2 (at_rest hN hG h0)⟩
/-- how much each number can be above one: none is known, but of it -/
def fromB (b : Nat) : Nat → Int := fun i => if i = b then 0 else 1073741824
theorem fromB_bnd (b : Nat) : BndR 0 (fromB b) := fun i => by unfold fromB; split <;> omega
/-- the document's above: at rest, the number is the greatest difference, or there is none -/
theorem above_law {ru : Nat → Rul} {n N : Nat} (hN : ∀ j, j < n → (ru j).a < N ∧ (ru j).b < N) (hm : ∀ j, j < n → -100000 ≤ (ru j).m ∧ (ru j).m ≤ 100000) (hn : n ≤ 100) (hN2 : N ≤ 100) (hs : ∃ x, SolR ru n x) {a b : Nat} (ha : a < N) (hb : b < N) :
    (∃ r, r ≤ N ∧ stillR ru (itR ru n (fromB b) r) n = true) ∧ ∀ r, r ≤ N → stillR ru (itR ru n (fromB b) r) n = true →
      (itR ru n (fromB b) r a = 1073741824 → ∀ K : Int, ∃ x, SolR ru n x ∧ K ≤ x a - x b) ∧ (itR ru n (fromB b) r a ≠ 1073741824 → itR ru n (fromB b) r a < 1073741824 ∧ (∀ x, SolR ru n x → x a - x b ≤ itR ru n (fromB b) r a) ∧ ∃ x, SolR ru n x ∧ x a - x b = itR ru n (fromB b) r a) := by
  obtain ⟨y, hy⟩ := hs
  have hle : ∀ i, (0 : Int) ≤ fromB b i := fun i => by unfold fromB; split <;> omega
  obtain ⟨G, hG, hG0⟩ := hy.low hN
  refine ⟨⟨N, Nat.le_refl _, (still_iff ru _ n).2 (at_rest hN hG fun i => Int.le_trans (hG0 i) (hle i))⟩, fun r hr hst => ?_⟩
  have hS := ((still_iff ru _ n).1 hst).2
  have hB := BndR.it (fromB_bnd b) hm r
  have hrn : r * n ≤ 10000 := Nat.le_trans (Nat.mul_le_mul hr hn) (by omega)
  obtain ⟨z, hz⟩ : ∃ z, z = itR ru n (fromB b) r := ⟨_, rfl⟩
  have hge : ∀ x, SolR ru n x → ∀ i, i < N → min (x i - x b) 1073741824 ≤ z i := fun x hx i hi => by
    have h1 : Stab ru n (fun i => if i < N then min (x i - x b) 1073741824 else 0) := fun j hj hc => by
      obtain ⟨na, nb⟩ := hN j hj
      unfold Rul.Cut at hc
      simp only [if_pos na, if_pos nb] at hc
      have := hx j hj
      omega
    have h2 := itR_ge h1 (x := fromB b) (fun i => by
      show (if i < N then _ else _) ≤ _
      by_cases h9 : i < N
      · rw [if_pos h9]
        unfold fromB
        by_cases h8 : i = b
        · subst h8; rw [if_pos rfl]; omega
        · rw [if_neg h8]; omega
      · rw [if_neg h9]; exact hle i) r i
    rw [← hz] at h2
    change (if i < N then _ else _) ≤ _ at h2
    rw [if_pos hi] at h2
    exact h2
  have hzb : z b = 0 := by
    have h1 := hge y hy b hb
    have h2 := itR_le ru n (fromB b) b r
    rw [← hz] at h2
    have h3 : fromB b b = 0 := if_pos rfl
    omega
  rw [← hz] at hS hB ⊢
  have hB2 : ∀ i, z i = 1073741824 ∨ (-1000000000 ≤ z i ∧ z i ≤ 1000000000) := fun i => by
    have := hB i; omega
  -- numbers that keep the rules: these, and others that are far above
  have hreal : ∀ K : Int, ∃ x, SolR ru n x ∧ (∀ i, i < N → z i ≠ 1073741824 → x i = z i) ∧ ∀ i, i < N → z i = 1073741824 → K ≤ x i := fun K => by
    obtain ⟨C, hC⟩ := low_of y N
    have hK : ∃ E : Int, K ≤ C + E ∧ 2000000000 ≤ C + E := ⟨max K 2000000000 - C, by omega, by omega⟩
    obtain ⟨E, hE1, hE2⟩ := hK
    refine ⟨fun i => if z i = 1073741824 then y i + E else z i, fun j hj => ?_, fun i _ h => if_neg h, fun i hi h => ?_⟩
    · obtain ⟨na, nb⟩ := hN j hj
      have h1 := hS j hj
      have h2 := hy j hj
      have h3 := hC _ nb
      have h4 := hm j hj
      have h5 := hB2 (ru j).a
      have h6 := hB2 (ru j).b
      unfold Rul.Cut at h1
      simp only
      by_cases ea : z (ru j).a = 1073741824
      · rw [if_pos ea]
        by_cases eb : z (ru j).b = 1073741824
        · rw [if_pos eb]; omega
        · omega
      · rw [if_neg ea]
        by_cases eb : z (ru j).b = 1073741824
        · rw [if_pos eb]; omega
        · rw [if_neg eb]; omega
    · show K ≤ (if z i = 1073741824 then _ else _)
      rw [if_pos h]; have := hC i hi; omega
  refine ⟨fun hv K => ?_, fun hv => ?_⟩
  · obtain ⟨x, h1, h2, h3⟩ := hreal K
    refine ⟨x, h1, ?_⟩
    have := h2 b hb (by omega)
    have := h3 a ha hv
    omega
  · have h5 := hB2 a
    refine ⟨by omega, fun x hx => ?_, ?_⟩
    · have := hge x hx a ha; omega
    · obtain ⟨x, h1, h2, h3⟩ := hreal 0
      refine ⟨x, h1, ?_⟩
      have := h2 b hb (by omega)
      have := h2 a ha hv
      omega
end Go.Proofs.YtldodmfmibeoiaaDoor
