/- Travel, plain: the table that boundsOf makes is closed, if it has no number below 0 from a thing to itself; it has none just if all bounds can be kept; each number of it is reached. -/
import Derived.Test.YtlofopnjjeeehaaDoorV2
namespace Go.Proofs.YtlofopnjjeeehaaDoor
open Go.RowKit
/-- numbers keep all bounds of a table -/
def Sat (D : T13) (x : Nat → Int) : Prop := ∀ i k, i < 13 → k < 13 → D i k < 1099511627776 → x i - x k ≤ D i k
/-- what is bounded in a table lies in these bounds -/
def Bd (M : Int) (D : T13) : Prop := ∀ i k, i < 13 → k < 13 → D i k ≤ 1099511627776 ∧ (D i k < 1099511627776 → -M ≤ D i k ∧ D i k ≤ M)
structure Gd (D : T13) : Prop where
  diag : ∀ i, i < 13 → D i i = 0
  bd : Bd 100000 D
theorem minT_at (D : T13) (i k : Nat) (n : Int) (a b : Nat) : minT D i k n a b = if a = i ∧ b = k then min (D i k) n else D a b := rfl
theorem stepK_le (y i k : Nat) (D : T13) (a b : Nat) : stepK y i k D a b ≤ D a b := by
  unfold stepK
  split
  · rw [minT_at]
    split
    · rename_i h; rw [h.1, h.2]; omega
    · exact Int.le_refl _
  · exact Int.le_refl _
theorem rowT_le (y i : Nat) (D : T13) (a b : Nat) : ∀ k, rowT y i k D a b ≤ D a b
  | 0 => Int.le_refl _
  | k + 1 => Int.le_trans (stepK_le _ _ _ _ _ _) (rowT_le y i D a b k)
theorem phaseT_le (y : Nat) (D : T13) (a b : Nat) : ∀ i, phaseT y i D a b ≤ D a b
  | 0 => Int.le_refl _
  | i + 1 => Int.le_trans (rowT_le _ _ _ _ _ _) (phaseT_le y D a b i)
theorem fwT_le (D : T13) (a b : Nat) : ∀ {y z}, y ≤ z → fwT z D a b ≤ fwT y D a b := by
  intro y z h
  induction z with
  | zero => obtain rfl : y = 0 := by omega
            exact Int.le_refl _
  | succ z ih =>
    by_cases h9 : y = z + 1
    · subst h9; exact Int.le_refl _
    · exact Int.le_trans (phaseT_le _ _ _ _ _) (ih (by omega))
/-- all at once -/
def upT (y : Nat) (D : T13) : T13 := fun i k => if D i y < 1099511627776 ∧ D y k < 1099511627776 then min (D i k) (D i y + D y k) else D i k
theorem upT_row {y : Nat} {D : T13} (h : D y y = 0) (b : Nat) : upT y D y b = D y b := by
  unfold upT
  split <;> omega
theorem upT_col {y : Nat} {D : T13} (h : D y y = 0) (a : Nat) : upT y D a y = D a y := by
  unfold upT
  split <;> omega
theorem rowT_eq {y i : Nat} {D E : T13} {M : Int} (hy : y < 13) (hi : i < 13) (h0 : D y y = 0) (hB : Bd M D) (hM : M ≤ 1000000000000) (hE : E = fun a b => if a < i ∧ b < 13 then upT y D a b else D a b) : ∀ {k}, k ≤ 13 → rowT y i k E = fun a b => if (a < i ∧ b < 13) ∨ (a = i ∧ b < k) then upT y D a b else D a b
  | 0, _ => by
    subst hE
    funext a b
    show (if a < i ∧ b < 13 then _ else _) = _
    by_cases h : a < i ∧ b < 13
    · rw [if_pos h, if_pos (.inl h)]
    · rw [if_neg h, if_neg (by omega)]
  | k + 1, hk => by
    have ih := rowT_eq hy hi h0 hB hM hE (k := k) (by omega)
    have e1 : rowT y i k E i y = D i y := by
      rw [ih]
      dsimp only
      split
      · exact upT_col h0 i
      · rfl
    have e2 : rowT y i k E y k = D y k := by
      rw [ih]
      dsimp only
      split
      · exact upT_row h0 k
      · rfl
    have e3 : rowT y i k E i k = D i k := by
      rw [ih]
      dsimp only
      rw [if_neg (by omega)]
    funext a b
    show stepK y i k (rowT y i k E) a b = _
    unfold stepK
    rw [e1, e2]
    by_cases hc : a = i ∧ b = k
    · obtain ⟨rfl, rfl⟩ := hc
      rw [if_pos (c := (_ ∨ _)) (Or.inr ⟨rfl, by omega⟩)]
      unfold upT
      by_cases h9 : D a y < 1099511627776 ∧ D y b < 1099511627776
      · rw [if_pos h9, if_pos h9]
        have b1 := (hB a y hi hy).2 h9.1
        have b2 := (hB y b hy (by omega)).2 h9.2
        have ew : IntKind.i64.wrap (D a y + D y b) = D a y + D y b := by rw [IntKind.wrap_i64]; omega
        rw [ew, minT_at, if_pos ⟨rfl, rfl⟩, e3]
      · rw [if_neg h9, if_neg h9]; exact e3
    · have e4 : (if D i y < 1099511627776 ∧ D y k < 1099511627776 then minT (rowT y i k E) i k (IntKind.i64.wrap (D i y + D y k)) else rowT y i k E) a b = rowT y i k E a b := by
        split
        · rw [minT_at, if_neg hc]
        · rfl
      rw [e4, ih]
      dsimp only
      by_cases h : (a < i ∧ b < 13) ∨ (a = i ∧ b < k)
      · rw [if_pos h, if_pos (by omega)]
      · rw [if_neg h, if_neg (by omega)]
theorem phaseT_eq {y : Nat} {D : T13} {M : Int} (hy : y < 13) (h0 : D y y = 0) (hB : Bd M D) (hM : M ≤ 1000000000000) : ∀ {i}, i ≤ 13 → phaseT y i D = fun a b => if a < i ∧ b < 13 then upT y D a b else D a b
  | 0, _ => by funext a b; rw [if_neg (by omega)]; rfl
  | i + 1, hi => by
    have ih := phaseT_eq hy h0 hB hM (i := i) (by omega)
    show rowT y i 13 (phaseT y i D) = _
    rw [rowT_eq hy (by omega) h0 hB hM ih (Nat.le_refl _)]
    funext a b
    by_cases h : a < i + 1 ∧ b < 13
    · rw [if_pos h, if_pos (by omega)]
    · rw [if_neg h, if_neg (by omega)]
theorem phase_at {y a b : Nat} {D : T13} {M : Int} (hy : y < 13) (h0 : D y y = 0) (hB : Bd M D) (hM : M ≤ 1000000000000) (ha : a < 13) (hb : b < 13) : phaseT y 13 D a b = upT y D a b := by
  rw [phaseT_eq hy h0 hB hM (Nat.le_refl _)]
  dsimp only
  rw [if_pos ⟨ha, hb⟩]
theorem Bd.up {M : Int} {D : T13} {y : Nat} (hB : Bd M D) (hy : y < 13) : Bd (2 * M) (upT y D) := fun i k hi hk => by
  have a1 := hB i k hi hk
  have a2 := hB i y hi hy
  have a3 := hB y k hy hk
  unfold upT
  split
  · rename_i h
    have b2 := a2.2 h.1
    have b3 := a3.2 h.2
    refine ⟨by omega, fun h9 => ?_⟩
    by_cases hf : D i k < 1099511627776
    · have b1 := a1.2 hf
      omega
    · omega
  · refine ⟨a1.1, fun h9 => ?_⟩
    have b1 := a1.2 h9
    omega
/-- the bound behind y rounds -/
def bdY (y : Nat) : Int := 100000 * ((2 ^ y : Nat) : Int)
theorem bdY_le {y : Nat} (h : y ≤ 13) : 0 ≤ bdY y ∧ bdY y ≤ 819200000 := by
  have h1 : 2 ^ y ≤ 2 ^ 13 := Nat.pow_le_pow_right (by omega) h
  have h2 : (2 : Nat) ^ 13 = 8192 := rfl
  unfold bdY
  generalize 2 ^ y = p at *
  omega
theorem bdY_succ (y : Nat) : bdY (y + 1) = 2 * bdY y := by
  unfold bdY
  rw [Nat.pow_succ]
  generalize 2 ^ y = p
  omega
/-- what is known as long as nothing is below 0 from a thing to itself -/
structure Go9 (D : T13) (y : Nat) : Prop where
  diag : ∀ i, i < 13 → fwT y D i i = 0
  bd : Bd (bdY y) (fwT y D)
theorem Go9.zero {D : T13} (h : Gd D) : Go9 D 0 := ⟨h.diag, by
  have : bdY 0 = 100000 := rfl
  rw [this]; exact h.bd⟩
theorem Go9.at {D : T13} {y a b : Nat} (h : Go9 D y) (hy : y < 13) (ha : a < 13) (hb : b < 13) : fwT (y + 1) D a b = upT y (fwT y D) a b :=
  phase_at hy (h.diag y hy) h.bd (by have := bdY_le (y := y) (by omega); omega) ha hb
theorem Go9.next {D : T13} {y : Nat} (h : Go9 D y) (hy : y < 13) (h0 : ∀ i, i < 13 → 0 ≤ fwT (y + 1) D i i) : Go9 D (y + 1) :=
  ⟨fun i hi => by
    have h1 := fwT_le D i i (y := y) (z := y + 1) (by omega)
    have h2 := h.diag i hi
    have h3 := h0 i hi
    omega, fun i k hi hk => by
    rw [h.at hy hi hk, bdY_succ]
    exact h.bd.up hy i k hi hk⟩
theorem Go9.of_end {D : T13} (h : Gd D) (h0 : ∀ i, i < 13 → 0 ≤ fwT 13 D i i) : ∀ {y}, y ≤ 13 → Go9 D y
  | 0, _ => .zero h
  | y + 1, hy => (Go9.of_end h h0 (y := y) (by omega)).next (by omega) fun i hi => Int.le_trans (h0 i hi) (fwT_le D i i hy)
theorem Sat.diag {D : T13} {x : Nat → Int} (h : Sat D x) {i : Nat} (hi : i < 13) : 0 ≤ D i i := by
  by_cases h9 : D i i < 1099511627776
  · have := h i i hi hi h9; omega
  · omega
theorem Sat.up {D : T13} {x : Nat → Int} {y : Nat} (h : Sat D x) (hy : y < 13) : Sat (upT y D) x := fun i k hi hk h9 => by
  unfold upT at h9 ⊢
  split
  · rename_i h8
    have h1 := h i y hi hy h8.1
    have h2 := h y k hy hk h8.2
    by_cases h7 : D i k < 1099511627776
    · have h3 := h i k hi hk h7
      omega
    · omega
  · rename_i h8
    rw [if_neg h8] at h9
    exact h i k hi hk h9
theorem Sat.congr {D E : T13} {x : Nat → Int} (h : Sat D x) (he : ∀ i k, i < 13 → k < 13 → E i k = D i k) : Sat E x := fun i k hi hk h9 => by
  rw [he i k hi hk] at h9 ⊢
  exact h i k hi hk h9
theorem Sat.go {D : T13} {x : Nat → Int} (hG : Gd D) (h : Sat D x) : ∀ {y}, y ≤ 13 → Go9 D y ∧ Sat (fwT y D) x
  | 0, _ => ⟨.zero hG, h⟩
  | y + 1, hy => by
    obtain ⟨g, s⟩ := Sat.go hG h (y := y) (by omega)
    have s' : Sat (fwT (y + 1) D) x := (s.up (y := y) (by omega)).congr fun i k hi hk => g.at (by omega) hi hk
    exact ⟨g.next (by omega) fun i hi => s'.diag hi, s'⟩
theorem Sat.back {D E : T13} {x : Nat → Int} (h : Sat D x) (hle : ∀ i k, D i k ≤ E i k) : Sat E x := fun i k hi hk h9 => by
  have h1 := hle i k
  have := h i k hi hk (by omega)
  omega
/-- closed under the triangle through the first things -/
def Tri (y : Nat) (D : T13) : Prop := ∀ j i k, j < y → i < 13 → k < 13 → D i j < 1099511627776 → D j k < 1099511627776 → D i k ≤ D i j + D j k
set_option maxHeartbeats 4000000 in
theorem Tri.up {M : Int} {D : T13} {y : Nat} (h : Tri y D) (hy : y < 13) (h0 : ∀ i, i < 13 → D i i = 0) (hB : Bd M D) (hM : M ≤ 100000000000) : Tri (y + 1) (upT y D) := fun j i k hj hi hk h1 h2 => by
  have hyy := h0 y hy
  obtain ⟨uik, bik⟩ := hB i k hi hk
  obtain ⟨uiy, biy⟩ := hB i y hi hy
  obtain ⟨uyk, byk⟩ := hB y k hy hk
  by_cases hjy : j = y
  · subst hjy
    rw [upT_col hyy] at h1 ⊢
    rw [upT_row hyy] at h2 ⊢
    unfold upT
    rw [if_pos ⟨h1, h2⟩]
    omega
  · have hj' : j < y := by omega
    have hj13 : j < 13 := by omega
    have tij := h j i k hj' hi hk
    have tyk := h j y k hj' hy hk
    have tiy := h j i y hj' hi hy
    have tyy := h j y y hj' hy hy
    obtain ⟨uij, bij⟩ := hB i j hi hj13
    obtain ⟨ujk, bjk⟩ := hB j k hj13 hk
    obtain ⟨uyj, byj⟩ := hB y j hy hj13
    obtain ⟨ujy, bjy⟩ := hB j y hj13 hy
    unfold upT at h1 h2 ⊢
    by_cases c1 : D i y < 1099511627776
    · have b1 := biy c1
      by_cases c2 : D y k < 1099511627776
      · have b2 := byk c2
        rw [if_pos ⟨c1, c2⟩]
        by_cases c3 : D y j < 1099511627776
        · have b3 := byj c3
          rw [if_pos ⟨c1, c3⟩] at h1 ⊢
          by_cases c4 : D j y < 1099511627776
          · have b4 := bjy c4
            rw [if_pos ⟨c4, c2⟩] at h2 ⊢
            have t4 := tyy c3 c4
            by_cases c5 : D i j < 1099511627776
            · have t2 := tiy c5 c4
              by_cases c6 : D j k < 1099511627776
              · have t1 := tij c5 c6
                have t3 := tyk c3 c6
                (clear tij tyk tiy tyy bij bjk byj bjy biy byk bik; omega)
              · (clear tij tyk tiy tyy bij bjk byj bjy biy byk bik; omega)
            · by_cases c6 : D j k < 1099511627776
              · have t3 := tyk c3 c6
                (clear tij tyk tiy tyy bij bjk byj bjy biy byk bik; omega)
              · (clear tij tyk tiy tyy bij bjk byj bjy biy byk bik; omega)
          · rw [if_neg (by (clear tij tyk tiy tyy bij bjk byj bjy biy byk bik; omega))] at h2 ⊢
            have t3 := tyk c3 h2
            by_cases c5 : D i j < 1099511627776
            · have t1 := tij c5 h2
              (clear tij tyk tiy tyy bij bjk byj bjy biy byk bik; omega)
            · (clear tij tyk tiy tyy bij bjk byj bjy biy byk bik; omega)
        · rw [if_neg (by (clear tij tyk tiy tyy bij bjk byj bjy biy byk bik; omega))] at h1 ⊢
          by_cases c4 : D j y < 1099511627776
          · have b4 := bjy c4
            rw [if_pos ⟨c4, c2⟩] at h2 ⊢
            have t2 := tiy h1 c4
            by_cases c6 : D j k < 1099511627776
            · have t1 := tij h1 c6
              (clear tij tyk tiy tyy bij bjk byj bjy biy byk bik; omega)
            · (clear tij tyk tiy tyy bij bjk byj bjy biy byk bik; omega)
          · rw [if_neg (by (clear tij tyk tiy tyy bij bjk byj bjy biy byk bik; omega))] at h2 ⊢
            have t1 := tij h1 h2
            (clear tij tyk tiy tyy bij bjk byj bjy biy byk bik; omega)
      · rw [if_neg (by (clear tij tyk tiy tyy bij bjk byj bjy biy byk bik; omega))]
        rw [if_neg (show ¬ (D j y < 1099511627776 ∧ D y k < 1099511627776) by (clear tij tyk tiy tyy bij bjk byj bjy biy byk bik; omega))] at h2 ⊢
        by_cases c3 : D y j < 1099511627776
        · have b3 := byj c3
          have t3 := tyk c3 h2
          have b2 := bjk h2
          (clear tij tyk tiy tyy bij bjk byj bjy biy byk bik; omega)
        · rw [if_neg (by (clear tij tyk tiy tyy bij bjk byj bjy biy byk bik; omega))] at h1 ⊢
          exact tij h1 h2
    · rw [if_neg (by (clear tij tyk tiy tyy bij bjk byj bjy biy byk bik; omega))]
      rw [if_neg (show ¬ (D i y < 1099511627776 ∧ D y j < 1099511627776) by (clear tij tyk tiy tyy bij bjk byj bjy biy byk bik; omega))] at h1 ⊢
      by_cases c4 : D j y < 1099511627776
      · have b4 := bjy c4
        have b5 := bij h1
        have t2 := tiy h1 c4
        (clear tij tyk tiy tyy bij bjk byj bjy biy byk bik; omega)
      · rw [if_neg (by (clear tij tyk tiy tyy bij bjk byj bjy biy byk bik; omega))] at h2 ⊢
        exact tij h1 h2
theorem Tri.congr {y : Nat} {D E : T13} (h : Tri y D) (hy : y ≤ 13) (he : ∀ i k, i < 13 → k < 13 → E i k = D i k) : Tri y E := fun j i k hj hi hk h1 h2 => by
  rw [he i j hi (by omega)] at h1 ⊢
  rw [he j k (by omega) hk] at h2 ⊢
  rw [he i k hi hk]
  exact h j i k hj hi hk h1 h2
theorem tri_of {D : T13} (hg : ∀ y, y ≤ 13 → Go9 D y) : ∀ {y}, y ≤ 13 → Tri y (fwT y D)
  | 0, _ => fun j _ _ hj => by omega
  | y + 1, hy => by
    have ih := tri_of hg (y := y) (by omega)
    have g := hg y (by omega)
    have := bdY_le (y := y) (by omega)
    exact (ih.up (by omega) g.diag g.bd (by omega)).congr (by omega) fun i k hi hk => g.at (by omega) hi hk
/-- a closed table -/
structure Cl (D : T13) : Prop where
  diag : ∀ i, i < 13 → D i i = 0
  bd : Bd 819200000 D
  tri : Tri 13 D
/-- the least of D i k + y k -/
def potA (D : T13) (y : Nat → Int) (i : Nat) : Nat → Int
  | 0 => y i
  | k + 1 => if D i k < 1099511627776 then min (potA D y i k) (D i k + y k) else potA D y i k
theorem potA_le {D : T13} {y : Nat → Int} {i : Nat} : ∀ {n k}, k < n → D i k < 1099511627776 → potA D y i n ≤ D i k + y k
  | n + 1, k, hk, h => by
    unfold potA
    by_cases h9 : k = n
    · subst h9; rw [if_pos h]; omega
    · have := potA_le (y := y) (n := n) (k := k) (by omega) h
      split <;> omega
theorem potA_is {D : T13} {y : Nat → Int} {i : Nat} : ∀ n, potA D y i n = y i ∨ ∃ k, k < n ∧ D i k < 1099511627776 ∧ potA D y i n = D i k + y k
  | 0 => .inl rfl
  | n + 1 => by
    rcases potA_is (D := D) (y := y) (i := i) n with h | ⟨k, h1, h2, h3⟩
    · unfold potA
      split
      · rename_i h9
        by_cases hle : potA D y i n ≤ D i n + y n
        · exact .inl (by omega)
        · exact .inr ⟨n, by omega, h9, by omega⟩
      · exact .inl h
    · unfold potA
      split
      · rename_i h9
        by_cases hle : potA D y i n ≤ D i n + y n
        · exact .inr ⟨k, by omega, h2, by omega⟩
        · exact .inr ⟨n, by omega, h9, by omega⟩
      · exact .inr ⟨k, by omega, h2, h3⟩
/-- the greatest numbers that keep all bounds, and are at most y -/
def pot (D : T13) (y : Nat → Int) (i : Nat) : Int := potA D y i 13
theorem Cl.pot_is {D : T13} (h : Cl D) (y : Nat → Int) {i : Nat} (hi : i < 13) : ∃ k, k < 13 ∧ D i k < 1099511627776 ∧ pot D y i = D i k + y k := by
  rcases potA_is (D := D) (y := y) (i := i) 13 with h9 | h9
  · have h0 := h.diag i hi
    exact ⟨i, hi, by rw [h0]; decide, by unfold pot; omega⟩
  · exact h9
theorem Cl.sat {D : T13} (h : Cl D) (y : Nat → Int) : Sat D (pot D y) := fun i k hi hk h9 => by
  obtain ⟨j, hj, h1, h2⟩ := h.pot_is y hk
  have t := h.tri k i j hk hi hj h9 h1
  have b1 := (h.bd i k hi hk).2 h9
  have b2 := (h.bd k j hk hj).2 h1
  have := potA_le (y := y) (n := 13) hj (show D i j < 1099511627776 by omega)
  show potA D y i 13 - _ ≤ _
  omega
theorem Cl.pot_le {D : T13} (h : Cl D) (y : Nat → Int) {i : Nat} (hi : i < 13) : pot D y i ≤ y i := by
  have h0 := h.diag i hi
  have := potA_le (D := D) (y := y) (n := 13) hi (by rw [h0]; decide)
  unfold pot
  omega
/-- the numbers in which a is as high above b as may be -/
def hiY (b : Nat) (L : Int) (k : Nat) : Int := if k = b then 0 else L
theorem Cl.reach {D : T13} (h : Cl D) {a b : Nat} (ha : a < 13) (hb : b < 13) (hf : D a b < 1099511627776) : ∃ x, Sat D x ∧ x a - x b = D a b := by
  refine ⟨pot D (hiY b 2000000000), h.sat _, ?_⟩
  have h1 : pot D (hiY b 2000000000) b = 0 := by
    obtain ⟨k, hk, k1, k2⟩ := h.pot_is (hiY b 2000000000) hb
    have := h.pot_le (hiY b 2000000000) hb
    have b1 := (h.bd b k hb hk).2 k1
    have h0 := h.diag b hb
    unfold hiY at this k2
    rw [if_pos rfl] at this
    by_cases hkb : k = b
    · subst hkb; rw [if_pos rfl] at k2; unfold hiY; omega
    · rw [if_neg hkb] at k2; unfold hiY; omega
  have h2 : pot D (hiY b 2000000000) a = D a b := by
    obtain ⟨k, hk, k1, k2⟩ := h.pot_is (hiY b 2000000000) ha
    have hle := potA_le (y := hiY b 2000000000) (n := 13) hb hf
    have b1 := (h.bd a k ha hk).2 k1
    have b2 := (h.bd a b ha hb).2 hf
    have e : pot D (hiY b 2000000000) a = potA D (hiY b 2000000000) a 13 := rfl
    unfold hiY at k2 hle e
    rw [if_pos rfl] at hle
    by_cases hkb : k = b
    · subst hkb; rw [if_pos rfl] at k2; unfold hiY; omega
    · rw [if_neg hkb] at k2; unfold hiY; omega
  omega
theorem Cl.far {D : T13} (h : Cl D) {a b : Nat} (ha : a < 13) (hb : b < 13) (hf : ¬ D a b < 1099511627776) (N : Int) : ∃ x, Sat D x ∧ N ≤ x a - x b := by
  refine ⟨pot D (hiY b (max 0 N + 2000000000)), h.sat _, ?_⟩
  obtain ⟨k, hk, k1, k2⟩ := h.pot_is (hiY b (max 0 N + 2000000000)) ha
  have hle := h.pot_le (hiY b (max 0 N + 2000000000)) hb
  have b1 := (h.bd a k ha hk).2 k1
  unfold hiY at k2 hle
  rw [if_pos rfl] at hle
  have hkb : k ≠ b := fun e => hf (by rw [← e]; exact k1)
  rw [if_neg hkb] at k2
  unfold hiY
  omega
theorem okT_iff (D : T13) : okT D = true ↔ ∀ i, i < 13 → 0 ≤ D i i := by
  unfold okT
  rw [List.all_eq_true]
  constructor
  · intro h i hi
    have := h i (List.mem_range.2 hi)
    simp at this
    omega
  · intro h i hi
    have := h i (List.mem_range.1 hi)
    simp
    omega
theorem cl_of_ok {D : T13} (hG : Gd D) (h : okT (fwT 13 D) = true) : Cl (fwT 13 D) := by
  have hg : ∀ y, y ≤ 13 → Go9 D y := fun y hy => Go9.of_end hG ((okT_iff _).1 h) hy
  have g := hg 13 (Nat.le_refl _)
  exact ⟨g.diag, g.bd, tri_of hg (Nat.le_refl _)⟩
theorem ok_of_sat {D : T13} {x : Nat → Int} (hG : Gd D) (h : Sat D x) : okT (fwT 13 D) = true := (okT_iff _).2 fun _ hi => (Sat.go hG h (Nat.le_refl _)).2.diag hi
theorem sat_end {D : T13} {x : Nat → Int} (hG : Gd D) : Sat (fwT 13 D) x ↔ Sat D x :=
  ⟨fun h => h.back fun i k => fwT_le D i k (Nat.zero_le 13), fun h => (Sat.go hG h (Nat.le_refl _)).2⟩
end Go.Proofs.YtlofopnjjeeehaaDoor
