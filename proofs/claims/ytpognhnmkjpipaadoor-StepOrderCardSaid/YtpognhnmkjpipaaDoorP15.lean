/- Streets that are turned: sets, sums and folds over them; plain, no program in sight. -/
import Derived.Test.YtpognhnmkjpipaaDoorP14
import Derived.Test.YtpognhnmkjpipaaDoorT2
namespace Go.Proofs.YtpognhnmkjpipaaDoor
/-- where a street goes when n streets are turned by k -/
def rot (n k i : Nat) : Nat := (i + k) % n
theorem rot_lt {n : Nat} (hn : 0 < n) (k i : Nat) : rot n k i < n := Nat.mod_lt _ hn
theorem rot_eq {n i : Nat} (k : Nat) (hi : i < n) : rot n k i = if i + k % n < n then i + k % n else i + k % n - n := by
  unfold rot
  have hk := Nat.mod_lt k (show 0 < n by omega)
  rw [Nat.add_mod, Nat.mod_eq_of_lt hi]
  generalize k % n = r at *
  split
  · rename_i h; exact Nat.mod_eq_of_lt h
  · rename_i h
    rw [Nat.mod_eq_sub_mod (by omega), Nat.mod_eq_of_lt (by omega)]
theorem rot_inj {n k i j : Nat} (hi : i < n) (hj : j < n) (h : rot n k i = rot n k j) : i = j := by
  rw [rot_eq k hi, rot_eq k hj] at h
  have hk := Nat.mod_lt k (show 0 < n by omega)
  generalize k % n = r at *
  split at h <;> split at h <;> omega
def unrot (n k j : Nat) : Nat := rot n (n - k % n) j
theorem rot_unrot {n j : Nat} (k : Nat) (hj : j < n) : rot n k (unrot n k j) = j := by
  have hk := Nat.mod_lt k (show 0 < n by omega)
  have h1 : unrot n k j < n := rot_lt (by omega) _ _
  rw [rot_eq k h1]
  have h2 : unrot n k j = if j + (n - k % n) % n < n then j + (n - k % n) % n else j + (n - k % n) % n - n := rot_eq _ hj
  have h3 : (n - k % n) % n = if k % n = 0 then 0 else n - k % n := by
    split
    · rename_i h; rw [h, Nat.sub_zero, Nat.mod_self]
    · exact Nat.mod_eq_of_lt (by omega)
  rw [h3] at h2
  generalize k % n = r at *
  generalize unrot n k j = u at *
  split at h2 <;> split at h2 <;> split <;> omega
theorem unrot_lt {n j : Nat} (k : Nat) (hj : j < n) : unrot n k j < n := rot_lt (by omega) _ _
theorem unrot_rot {n i : Nat} (k : Nat) (hi : i < n) : unrot n k (rot n k i) = i := by
  have h := rot_lt (n := n) (by omega) k i
  exact rot_inj (unrot_lt k h) hi (rot_unrot k h)
/-- a set whose first i streets are turned -/
def turnK (n k x : Nat) : Nat → Nat
  | 0 => 0
  | i + 1 => if hasB x i then turnK n k x i + 2 ^ rot n k i else turnK n k x i
def turnN (n k x : Nat) : Nat := turnK n k x n
theorem turnK_facts {n : Nat} (k x : Nat) (hn : n ≤ 10) : ∀ i, i ≤ n → turnK n k x i < 2 ^ n ∧ sizeN (turnK n k x i) = onesN x i ∧ ∀ j, j < 10 → (hasB (turnK n k x i) j = true ↔ ∃ c, c < i ∧ rot n k c = j ∧ hasB x c = true)
  | 0, _ => ⟨Nat.two_pow_pos _, zero_st.2.1, fun j hj => ⟨fun h => (by
      have e : hasB (turnK n k x 0) j = hasB 0 j := rfl
      rw [e, zero_st.2.2 j hj] at h; cases h), fun ⟨c, hc, _⟩ => by omega⟩⟩
  | i + 1, hi => by
    obtain ⟨h1, h2, h3⟩ := turnK_facts k x hn i (by omega)
    have h10 := pow_ten hn
    have hr := rot_lt (n := n) (by omega) k i
    cases hb : hasB x i
    · have e : turnK n k x (i + 1) = turnK n k x i := by
        show (if hasB x i = true then _ else _) = _
        rw [hb]; rfl
      rw [e]
      refine ⟨h1, ?_, fun j hj => ?_⟩
      · rw [h2]; show _ = onesN x i + if hasB x i = true then 1 else 0
        rw [hb]; rfl
      · rw [h3 j hj]
        constructor
        · rintro ⟨c, hc, h⟩; exact ⟨c, by omega, h⟩
        · rintro ⟨c, hc, e1, e2⟩
          by_cases hci : c = i
          · subst hci; rw [hb] at e2; cases e2
          · exact ⟨c, by omega, e1, e2⟩
    · have e : turnK n k x (i + 1) = turnK n k x i + 2 ^ rot n k i := by
        show (if hasB x i = true then _ else _) = _
        rw [hb]; rfl
      have hf : hasB (turnK n k x i) (rot n k i) = false := by
        cases h : hasB (turnK n k x i) (rot n k i)
        · rfl
        · obtain ⟨c, hc, e1, -⟩ := (h3 _ (by omega)).1 h
          have := rot_inj (by omega) (by omega) e1
          omega
      obtain ⟨p1, p2⟩ := plus_bit (x := turnK n k x i) (s := rot n k i) (by omega) (by omega) hf
      rw [e]
      refine ⟨plus_lt h1 hr hn hf, ?_, fun j hj => ?_⟩
      · rw [p1, h2]; show _ = onesN x i + if hasB x i = true then 1 else 0
        rw [hb]; rfl
      · rw [p2 j hj, Bool.or_eq_true, h3 j hj, decide_eq_true_eq]
        constructor
        · rintro (⟨c, hc, h⟩ | h)
          · exact ⟨c, by omega, h⟩
          · exact ⟨i, by omega, h.symm, hb⟩
        · rintro ⟨c, hc, e1, e2⟩
          by_cases hci : c = i
          · subst hci; exact .inr e1.symm
          · exact .inl ⟨c, by omega, e1, e2⟩
theorem turn_lt {n : Nat} (k x : Nat) (hn : n ≤ 10) : turnN n k x < 2 ^ n := (turnK_facts k x hn n (Nat.le_refl _)).1
theorem turn_bit {n i : Nat} (k x : Nat) (hn : n ≤ 10) (hi : i < n) : hasB (turnN n k x) (rot n k i) = hasB x i := by
  have hr := rot_lt (n := n) (by omega) k i
  have h := (turnK_facts k x hn n (Nat.le_refl _)).2.2 (rot n k i) (by omega)
  rw [Bool.eq_iff_iff]
  refine h.trans ⟨?_, fun h => ⟨i, hi, rfl, h⟩⟩
  rintro ⟨c, hc, e1, e2⟩
  rw [rot_inj hc hi e1] at e2; exact e2
theorem high_bit {n x s : Nat} (hx : x < 2 ^ n) (hs : n ≤ s) : hasB x s = false := by
  rw [hasB_bit]
  exact Nat.testBit_lt_two_pow (Nat.lt_of_lt_of_le hx (Nat.pow_le_pow_right (by omega) hs))
theorem ones_high {n x : Nat} (hx : x < 2 ^ n) : ∀ d, onesN x (n + d) = onesN x n
  | 0 => rfl
  | d + 1 => by
    show onesN x (n + d) + (if hasB x (n + d) = true then 1 else 0) = _
    rw [high_bit hx (by omega), ones_high hx d]; rfl
theorem turn_size {n x : Nat} (k : Nat) (hn : n ≤ 10) (hx : x < 2 ^ n) : sizeN (turnN n k x) = sizeN x := by
  refine (turnK_facts k x hn n (Nat.le_refl _)).2.1.trans ?_
  have := ones_high hx (10 - n)
  rw [show n + (10 - n) = 10 by omega] at this
  exact this.symm
theorem bits_ext {n a b : Nat} (ha : a < 2 ^ n) (hb : b < 2 ^ n) (h : ∀ s, s < n → hasB a s = hasB b s) : a = b := by
  apply Nat.eq_of_testBit_eq
  intro s
  rw [← hasB_bit, ← hasB_bit]
  by_cases hs : s < n
  · exact h s hs
  · rw [high_bit ha (by omega), high_bit hb (by omega)]
/-- two sets agree if they agree on all turned streets -/
theorem rot_ext {n a b : Nat} (k : Nat) (ha : a < 2 ^ n) (hb : b < 2 ^ n) (h : ∀ s, s < n → hasB a (rot n k s) = hasB b (rot n k s)) : a = b :=
  bits_ext ha hb fun s hs => by
    have := h _ (unrot_lt k hs)
    rwa [rot_unrot k hs] at this
theorem turn_surj {n y : Nat} (k : Nat) (hn : n ≤ 10) (hy : y < 2 ^ n) : ∃ x, x < 2 ^ n ∧ turnN n k x = y := by
  refine ⟨turnN n (n - k % n) y, turn_lt _ _ hn, ?_⟩
  refine rot_ext k (turn_lt _ _ hn) hy fun s hs => ?_
  rw [turn_bit k _ hn hs]
  have h := turn_bit (n - k % n) y hn (rot_lt (n := n) (by omega) k s)
  have e : rot n (n - k % n) (rot n k s) = s := unrot_rot k hs
  rw [e] at h
  exact h
theorem turn_and {n a b : Nat} (k : Nat) (hn : n ≤ 10) : turnN n k (a &&& b) = turnN n k a &&& turnN n k b := by
  refine rot_ext k (turn_lt _ _ hn) (Nat.lt_of_le_of_lt Nat.and_le_left (turn_lt _ _ hn)) fun s hs => ?_
  rw [hasB_and, turn_bit k _ hn hs, turn_bit k _ hn hs, turn_bit k _ hn hs, hasB_and]
theorem turn_xor {n a b : Nat} (k : Nat) (hn : n ≤ 10) : turnN n k (a ^^^ b) = turnN n k a ^^^ turnN n k b := by
  refine rot_ext k (turn_lt _ _ hn) (Nat.xor_lt_two_pow (turn_lt _ _ hn) (turn_lt _ _ hn)) fun s hs => ?_
  rw [hasB_xor, turn_bit k _ hn hs, turn_bit k _ hn hs, turn_bit k _ hn hs, hasB_xor]
theorem turn_parts {n c s : Nat} (k : Nat) (hn : n ≤ 10) (hc : c < 2 ^ n) : partsN (turnN n k c) (turnN n k s) = partsN c s := by
  unfold partsN
  rw [← turn_and k hn, ← turn_xor k hn, turn_size k hn (Nat.lt_of_le_of_lt Nat.and_le_left hc), turn_size k hn (Nat.xor_lt_two_pow hc (Nat.lt_of_le_of_lt Nat.and_le_left hc))]
/-- sums -/
def sumN (F : Nat → Int) : Nat → Int
  | 0 => 0
  | k + 1 => sumN F k + F k
theorem sumN_congr {F G : Nat → Int} : ∀ {k}, (∀ i, i < k → F i = G i) → sumN F k = sumN G k
  | 0, _ => rfl
  | k + 1, h => by unfold sumN; rw [sumN_congr (fun i hi => h i (by omega)), h k (by omega)]
theorem sumN_add (F : Nat → Int) (a : Nat) : ∀ b, sumN F (a + b) = sumN F a + sumN (fun i => F (a + i)) b
  | 0 => by show sumN F a = sumN F a + 0; omega
  | b + 1 => by
    show sumN F (a + b) + F (a + b) = sumN F a + (sumN (fun i => F (a + i)) b + F (a + b))
    rw [sumN_add F a b]; omega
theorem sumN_rot (F : Nat → Int) (n k : Nat) : sumN (fun i => F (rot n k i)) n = sumN F n := by
  by_cases hn : n = 0
  · subst hn; rfl
  have hk := Nat.mod_lt k (show 0 < n by omega)
  obtain ⟨r, hr⟩ : ∃ r, r = k % n := ⟨_, rfl⟩
  rw [← hr] at hk
  obtain ⟨d, hd⟩ : ∃ d, n = d + r := ⟨n - r, by omega⟩
  have e1 : sumN (fun i => F (rot n k i)) n = sumN (fun i => F (r + i)) d + sumN F r := by
    have e0 : sumN (fun i => F (rot n k i)) n = sumN (fun i => F (rot n k i)) (d + r) := by rw [← hd]
    rw [e0, sumN_add]
    refine congr (congrArg _ (sumN_congr fun i hi => ?_)) (sumN_congr fun i hi => ?_)
    · rw [rot_eq k (show i < n by omega), ← hr, if_pos (by omega), Nat.add_comm]
    · rw [rot_eq k (show d + i < n by omega), ← hr, if_neg (by omega)]
      congr 1; omega
  have e2 : sumN F n = sumN F r + sumN (fun i => F (r + i)) d := by rw [hd, Nat.add_comm, sumN_add]
  rw [e1, e2]; omega
/-- folds whose steps commute -/
def foldK {α : Type} (F : Nat → α → α) (o : α) : Nat → α
  | 0 => o
  | k + 1 => F k (foldK F o k)
theorem foldK_congr {α : Type} {F G : Nat → α → α} {o : α} : ∀ {k}, (∀ i, i < k → F i = G i) → foldK F o k = foldK G o k
  | 0, _ => rfl
  | k + 1, h => by unfold foldK; rw [foldK_congr (fun i hi => h i (by omega)), h k (by omega)]
theorem foldK_add {α : Type} (F : Nat → α → α) (o : α) (a : Nat) : ∀ b, foldK F o (a + b) = foldK (fun i => F (a + i)) (foldK F o a) b
  | 0 => rfl
  | b + 1 => by
    show F (a + b) (foldK F o (a + b)) = F (a + b) (foldK (fun i => F (a + i)) (foldK F o a) b)
    rw [foldK_add F o a b]
theorem foldK_one {α : Type} {F : Nat → α → α} {H : α → α} (hc : ∀ i o, H (F i o) = F i (H o)) (o : α) : ∀ a, H (foldK F o a) = foldK F (H o) a
  | 0 => rfl
  | a + 1 => by
    show H (F a (foldK F o a)) = F a (foldK F (H o) a)
    rw [hc, foldK_one hc o a]
theorem foldK_swap {α : Type} {F G : Nat → α → α} (hc : ∀ i j o, G j (F i o) = F i (G j o)) (o : α) (a : Nat) : ∀ b, foldK G (foldK F o a) b = foldK F (foldK G o b) a
  | 0 => rfl
  | b + 1 => by
    show G b (foldK G (foldK F o a) b) = foldK F (G b (foldK G o b)) a
    rw [foldK_swap hc o a b, foldK_one (fun i o => hc i b o)]
theorem foldK_rot {α : Type} {F : Nat → α → α} (hc : ∀ i j o, F j (F i o) = F i (F j o)) (o : α) (n k : Nat) : foldK (fun i => F (rot n k i)) o n = foldK F o n := by
  by_cases hn : n = 0
  · subst hn; rfl
  have hk := Nat.mod_lt k (show 0 < n by omega)
  obtain ⟨r, hr⟩ : ∃ r, r = k % n := ⟨_, rfl⟩
  rw [← hr] at hk
  obtain ⟨d, hd⟩ : ∃ d, n = d + r := ⟨n - r, by omega⟩
  have e1 : foldK (fun i => F (rot n k i)) o n = foldK F (foldK (fun i => F (r + i)) o d) r := by
    have e0 : foldK (fun i => F (rot n k i)) o n = foldK (fun i => F (rot n k i)) o (d + r) := by rw [← hd]
    have e3 : foldK (fun i => F (rot n k i)) o d = foldK (fun i => F (r + i)) o d := foldK_congr fun i hi => by
      rw [rot_eq k (show i < n by omega), ← hr, if_pos (by omega), Nat.add_comm]
    rw [e0, foldK_add, e3]
    refine foldK_congr fun i hi => ?_
    rw [rot_eq k (show d + i < n by omega), ← hr, if_neg (by omega)]
    congr 1; omega
  have e2 : foldK F o n = foldK (fun i => F (r + i)) (foldK F o r) d := by rw [hd, Nat.add_comm, foldK_add]
  rw [e1, e2]
  exact foldK_swap (F := fun i => F (r + i)) (G := F) (fun i j o => hc _ _ _) o d r
end Go.Proofs.YtpognhnmkjpipaaDoor
