/- Zone, plain: a truth that is drawn. -/
import Derived.Test.YtipnaeijbbbdoaaZ9
namespace Go.Proofs.Ytipnaeijbbbdoaa
open Go.RowKit
section
variable (d : Nat → Nat → Nat)
def prt (i : Nat) : Int := ((d i 1 % (i + 1) : Nat) : Int) - 1
def hasB (i j : Nat) : Bool := anyB i (fun c => decide (prt d c = (j : Int)))
def abt (c : Int) (a b : Nat) : Spn := ⟨max 0 (c - ((a % 300 : Nat) : Int)), c + ((b % 300 : Nat) : Int)⟩
/-- a zone, as it is at last -/
def finZ (t : Int) (i : Nat) : Zon := ⟨abt (t + ((d i 3 % 5000 : Nat) : Int) + ((d i 4 % 200 : Nat) : Int)) (d i 5) (d i 6), abt ((d i 3 % 5000 : Nat) : Int) (d i 6) (d i 2), ⟨-((d i 4 % 40 : Nat) : Int), ((d i 5 % 40 : Nat) : Int)⟩, abt ((d i 4 % 200 : Nat) : Int) (d i 3) (d i 1), prt d i⟩
def bareZ (i : Nat) : Zon := ⟨⟨0, 0⟩, ⟨0, 0⟩, ⟨0, 0⟩, ⟨0, 0⟩, prt d i⟩
def fz (k : Nat) (t : Nat → Int) (j : Nat) : Zon := if k ≤ j then finZ d (t j) j else bareZ d j
end
variable {d : Nat → Nat → Nat}
theorem prt_bd (i : Nat) : -1 ≤ prt d i ∧ prt d i < (i : Int) := by
  have := Nat.mod_lt (d i 1) (show 0 < i + 1 by omega)
  unfold prt; omega
theorem hasB_succ (i j : Nat) : hasB d (i + 1) j = (hasB d i j || decide (prt d i = (j : Int))) := by
  simp [hasB, anyB, List.range_succ, List.any_append]
theorem hasB_iff {i j : Nat} : hasB d i j = true ↔ ∃ c, c < i ∧ prt d c = (j : Int) := by
  unfold hasB; rw [anyB_iff]; simp
def updI (f : Nat → Int) (i : Nat) (x : Int) : Nat → Int := fun j => if j = i then x else f j
theorem updI_self (f : Nat → Int) (i : Nat) (x : Int) : updI f i x i = x := if_pos rfl
theorem updI_ne {f : Nat → Int} {i j : Nat} {x : Int} (h : j ≠ i) : updI f i x j = f j := if_neg h
theorem sumN_upd {f : Nat → Int} {q : Nat} {x : Int} : ∀ {k : Nat}, q < k → sumN (updI f q (f q + x)) k = sumN f k + x
  | 0, h => by omega
  | k + 1, h => by
    simp only [sumN]
    by_cases hq : q = k
    · subst hq
      rw [updI_self, sumN_congr (g := f) fun i hi => updI_ne (by omega)]
      omega
    · rw [sumN_upd (by omega), updI_ne (by omega)]
      omega
theorem sumN_nn {f : Nat → Int} : ∀ {k : Nat}, (∀ i, i < k → 0 ≤ f i) → 0 ≤ sumN f k
  | 0, _ => by simp [sumN]
  | k + 1, h => by
    have h1 := sumN_nn (f := f) (k := k) fun i hi => h i (by omega)
    have h2 := h k (by omega)
    simp only [sumN]; omega
/-- what the parts from k on lose -/
def ksum (d : Nat → Nat → Nat) (n : Nat) (t : Nat → Int) (j k : Nat) : Int := sumN (fun c => if prt d c = (j : Int) ∧ k ≤ c then t c else 0) n
theorem ksum_end (n : Nat) (t : Nat → Int) (j : Nat) : ksum d n t j n = 0 := by
  unfold ksum
  rw [sumN_congr (g := fun _ => 0) fun i hi => if_neg (by omega)]
  have h0 : ∀ k, sumN (fun _ => 0) k = 0 := fun k => by
    induction k with
    | zero => rfl
    | succ k ih => simp only [sumN, ih]; rfl
  exact h0 n
theorem ksum_congr {n k j : Nat} {t s : Nat → Int} (h : ∀ c, k ≤ c → t c = s c) : ksum d n t j k = ksum d n s j k := by
  unfold ksum
  refine sumN_congr fun i _ => ?_
  by_cases hc : prt d i = (j : Int) ∧ k ≤ i
  · rw [if_pos hc, if_pos hc, h i hc.2]
  · rw [if_neg hc, if_neg hc]
theorem ksum_step (t : Nat → Int) (j i : Nat) : ∀ n, ksum d n t j i = ksum d n t j (i + 1) + (if i < n ∧ prt d i = (j : Int) then t i else 0)
  | 0 => by rw [if_neg (by omega)]; rfl
  | n + 1 => by
    have h1 := ksum_step t j i n
    unfold ksum at h1 ⊢
    simp only [sumN]
    rw [h1]
    by_cases hin : i = n
    · subst hin
      have hni : ¬ i + 1 ≤ i := by omega
      by_cases hp : prt d i = (j : Int) <;> simp [hp, hni]
    · have e1 : (prt d n = (j : Int) ∧ i ≤ n) ↔ (prt d n = (j : Int) ∧ i + 1 ≤ n) := by omega
      have e2 : (i < n ∧ prt d i = (j : Int)) ↔ (i < n + 1 ∧ prt d i = (j : Int)) := by omega
      simp only [e1, e2]
      omega
/-- what is lost, when the zones from k on are done -/
structure TS (d : Nat → Nat → Nat) (n k : Nat) (t : Nat → Int) : Prop where
  nn : ∀ j, j < n → 0 ≤ t j
  sm : ∀ j, j < n → hasB d n j = true → t j = ksum d n t j k
  lf : ∀ j, j < k → hasB d n j = false → t j = 0
  ms : sumN t k ≤ 3000 * ((n : Int) - k)
  bd : ∀ j, k ≤ j → j < n → t j ≤ 36000
/-- the same, when the zone i has its own -/
structure TM (d : Nat → Nat → Nat) (n i : Nat) (t : Nat → Int) : Prop where
  nn : ∀ j, j < n → 0 ≤ t j
  sm : ∀ j, j < n → hasB d n j = true → t j = ksum d n t j (i + 1)
  lf : ∀ j, j < i → hasB d n j = false → t j = 0
  ms : sumN t (i + 1) ≤ 3000 * ((n : Int) - i)
  bd : ∀ j, i < j → j < n → t j ≤ 36000
theorem TS.start (n : Nat) : TS d n n (fun _ => 0) where
  nn := fun j hj => Int.le_refl _
  sm := fun j hj _ => (ksum_end n _ j).symm
  lf := fun _ _ _ => rfl
  ms := by
    have h0 : ∀ k, sumN (fun _ => 0) k = 0 := fun k => by
      induction k with
      | zero => rfl
      | succ k ih => simp only [sumN, ih]; rfl
    rw [h0]; omega
  bd := fun j h1 h2 => by omega
theorem TS.leaf {n i : Nat} {t : Nat → Int} {L : Int} (h : TS d n (i + 1) t) (hi : i < n) (hl : hasB d n i = false) (h0 : 0 ≤ L) (h1 : L ≤ 2999) : TM d n i (updI t i L) where
  nn := fun j hj => by
    by_cases e : j = i
    · subst e; rw [updI_self]; exact h0
    · rw [updI_ne e]; exact h.nn j hj
  sm := fun j hj hh => by
    have e : j ≠ i := fun e => by subst e; rw [hl] at hh; cases hh
    rw [updI_ne e, h.sm j hj hh]
    exact ksum_congr fun c hc => (updI_ne (by omega)).symm
  lf := fun j hj hh => by rw [updI_ne (by omega)]; exact h.lf j (by omega) hh
  ms := by
    have h2 := sumN_upd (f := t) (q := i) (x := L) (k := i + 1) (by omega)
    rw [h.lf i (by omega) hl, Int.zero_add] at h2
    have := h.ms
    rw [h2]; omega
  bd := fun j h2 h3 => by rw [updI_ne (by omega)]; exact h.bd j (by omega) h3
theorem TS.inner {n i : Nat} {t : Nat → Int} (h : TS d n (i + 1) t) : TM d n i t where
  nn := h.nn
  sm := h.sm
  lf := fun j hj hh => h.lf j (by omega) hh
  ms := by have := h.ms; omega
  bd := fun j h2 h3 => h.bd j (by omega) h3
theorem TM.le {n i : Nat} {t : Nat → Int} (h : TM d n i t) (hn : n ≤ 12) (hi : i < n) : 0 ≤ t i ∧ t i ≤ 36000 := by
  have h1 := h.ms
  have h2 := h.nn i hi
  have h3 := sumN_nn (f := t) (k := i) fun j hj => h.nn j (by omega)
  simp only [sumN] at h1
  omega
theorem TM.up {n i q : Nat} {t : Nat → Int} (h : TM d n i t) (hn : n ≤ 12) (hi : i < n) (hq : prt d i = (q : Int)) : TS d n i (updI t q (t q + t i)) := by
  have hqi : q < i := by have := prt_bd (d := d) i; omega
  have hb := h.le hn hi
  refine ⟨fun j hj => ?_, fun j hj hh => ?_, fun j hj hh => ?_, ?_, fun j h1 h2 => ?_⟩
  · by_cases e : j = q
    · subst e; rw [updI_self]; have := h.nn j hj; omega
    · rw [updI_ne e]; exact h.nn j hj
  · rw [ksum_congr (s := t) fun c hc => updI_ne (by omega), ksum_step, hq]
    by_cases e : j = q
    · subst e; rw [updI_self, if_pos ⟨hi, rfl⟩, h.sm j hj hh]
    · rw [updI_ne e, if_neg (by omega), h.sm j hj hh]; omega
  · have e : j ≠ q := fun e => by
      subst e
      rw [hasB_iff.2 ⟨i, hi, hq⟩] at hh; cases hh
    rw [updI_ne e]; exact h.lf j hj hh
  · have := h.ms
    rw [sumN_upd hqi]
    simp only [sumN] at this
    exact this
  · rw [updI_ne (by omega)]
    by_cases e : j = i
    · subst e; exact hb.2
    · exact h.bd j (by omega) h2
theorem TM.top {n i : Nat} {t : Nat → Int} (h : TM d n i t) (hn : n ≤ 12) (hi : i < n) (hq : prt d i = -1) : TS d n i t := by
  have hb := h.le hn hi
  refine ⟨h.nn, fun j hj hh => ?_, h.lf, ?_, fun j h1 h2 => ?_⟩
  · rw [ksum_step, hq, if_neg (by omega), h.sm j hj hh]; omega
  · have := h.ms
    simp only [sumN] at this
    omega
  · by_cases e : j = i
    · subst e; exact hb.2
    · exact h.bd j (by omega) h2
theorem fz_step {i : Nat} {t s : Nat → Int} (h : ∀ j, i < j → s j = t j) : fz d i s = updZ (fz d (i + 1) t) i (finZ d (s i) i) := by
  funext j
  unfold fz updZ
  by_cases e : j = i
  · subst e; rw [if_pos (Nat.le_refl _), if_pos rfl]
  · rw [if_neg e]
    by_cases h1 : i ≤ j
    · have h2 : i + 1 ≤ j := by omega
      simp only [h1, h2, if_true, h j h2]
    · have h2 : ¬ i + 1 ≤ j := by omega
      simp only [h1, h2, if_false]
theorem fz_bare {k i : Nat} {t : Nat → Int} (h : i < k) : fz d k t i = bareZ d i := if_neg (by omega)
/-- two cells of the zone i are stored -/
theorem ZRow.two {n i k0 : Nat} {f : Nat → Zon} {a x : Zon} {cur : Array Value} {u v : Value} (h : ZRow n (updZ f i a) cur) (hi : i < n) (hk0 : k0 + 1 < 9) (hx : ∀ k, k < 9 → x.cells[k]? = if k = k0 then some u else if k = k0 + 1 then some v else a.cells[k]?) : ZRow n (updZ f i x) (setA cur (i * 9 + k0) [u, v]) := by
  obtain ⟨hs, hc⟩ := h
  refine ⟨by rw [setA_size]; exact hs, fun j hj k hk => ?_⟩
  rw [setA_get _ _ _ _ (by simp; omega)]
  by_cases e : j = i
  · subst e
    rw [updZ_self, hx k hk]
    by_cases e0 : k = k0
    · subst e0
      rw [if_pos (by simp), if_pos rfl, Nat.sub_self]; rfl
    · rw [if_neg e0]
      by_cases e1 : k = k0 + 1
      · subst e1
        rw [if_pos (by simp; omega), if_pos rfl, show j * 9 + (k0 + 1) - (j * 9 + k0) = 1 by omega]; rfl
      · rw [if_neg (by simp; omega), if_neg e1, hc j hj k hk, updZ_self]
  · rw [if_neg (by simp; omega), updZ_ne e, hc j hj k hk, updZ_ne e]
theorem abt_in {c : Int} {a b : Nat} (h0 : 0 ≤ c) : 0 ≤ (abt c a b).lo ∧ (abt c a b).lo ≤ c ∧ c ≤ (abt c a b).hi ∧ (abt c a b).hi ≤ c + 299 := by
  have := Nat.mod_lt b (show 0 < 300 by omega)
  unfold abt
  simp only
  omega
theorem finZ_ok {t : Int} {i : Nat} (h0 : 0 ≤ t) (h1 : t ≤ 36000) : (finZ d t i).ok ∧ (finZ d t i).own.lo ≤ t ∧ t ≤ (finZ d t i).own.hi := by
  obtain ⟨g, hg⟩ : ∃ g, g = d i 3 % 5000 := ⟨_, rfl⟩
  obtain ⟨l, hl⟩ : ∃ g, g = d i 4 % 200 := ⟨_, rfl⟩
  obtain ⟨x, hx⟩ : ∃ g, g = d i 4 % 40 := ⟨_, rfl⟩
  obtain ⟨y, hy⟩ : ∃ g, g = d i 5 % 40 := ⟨_, rfl⟩
  have hg1 : g < 5000 := by rw [hg]; exact Nat.mod_lt _ (by omega)
  have hl1 : l < 200 := by rw [hl]; exact Nat.mod_lt _ (by omega)
  have hx1 : x < 40 := by rw [hx]; exact Nat.mod_lt _ (by omega)
  have hy1 : y < 40 := by rw [hy]; exact Nat.mod_lt _ (by omega)
  have a1 := abt_in (a := d i 5) (b := d i 6) (c := t + (g : Int) + (l : Int)) (by omega)
  have a2 := abt_in (a := d i 6) (b := d i 2) (c := (g : Int)) (by omega)
  have a3 := abt_in (a := d i 3) (b := d i 1) (c := (l : Int)) (by omega)
  have e : finZ d t i = ⟨abt (t + (g : Int) + (l : Int)) (d i 5) (d i 6), abt (g : Int) (d i 6) (d i 2), ⟨-(x : Int), (y : Int)⟩, abt (l : Int) (d i 3) (d i 1), prt d i⟩ := by rw [hg, hl, hx, hy]; rfl
  rw [e]
  generalize abt (t + (g : Int) + (l : Int)) (d i 5) (d i 6) = A at a1
  generalize abt (g : Int) (d i 6) (d i 2) = M at a2
  generalize abt (l : Int) (d i 3) (d i 1) = B at a3
  refine ⟨⟨⟨by dsimp only; omega, by dsimp only; omega, by dsimp only; omega⟩, ⟨by dsimp only; omega, by dsimp only; omega, by dsimp only; omega⟩, ⟨by dsimp only; omega, by dsimp only; omega, by dsimp only; omega⟩, ⟨by dsimp only; omega, by dsimp only; omega, by dsimp only; omega⟩⟩, ?_, ?_⟩
  · unfold Zon.own thrD
    simp only
    have h2 : (g : Int) ≤ 1000 * M.hi / (1000 + -(x : Int)) := by
      refine (Int.le_ediv_iff_mul_le (by omega)).2 ?_
      have h3 : (g : Int) * (1000 + -(x : Int)) ≤ (g : Int) * 1000 := Int.mul_le_mul_of_nonneg_left (by omega) (by omega)
      omega
    omega
  · unfold Zon.own thrU
    simp only
    have h2 : (1000 * M.lo + (1000 + (y : Int)) - 1) / (1000 + (y : Int)) ≤ (g : Int) := by
      refine Int.le_of_lt_add_one ((Int.ediv_lt_iff_lt_mul (by omega)).2 ?_)
      have h3 : (g : Int) * 1000 ≤ (g : Int) * (1000 + (y : Int)) := Int.mul_le_mul_of_nonneg_left (by omega) (by omega)
      rw [Int.add_mul]
      omega
    omega
theorem fz_tree (n : Nat) (t : Nat → Int) : Tree (fz d 0 t) n := fun c _ => by
  have := prt_bd (d := d) c
  exact this
theorem ksum_kids (t : Nat → Int) (j : Nat) (s : Nat → Int) : ∀ n, ksum d n t j 0 = sumL t (kidsTo (fz d 0 s) j n)
  | 0 => rfl
  | n + 1 => by
    have h1 := ksum_kids t j s n
    unfold ksum at h1 ⊢
    simp only [sumN]
    rw [h1]
    have hp : (fz d 0 s n).p = prt d n := rfl
    by_cases e : prt d n = (j : Int)
    · rw [if_pos ⟨e, Nat.zero_le _⟩, kidsTo_some (by rw [hp]; exact e), sumL_snoc]
    · rw [if_neg (by simp [e]), kidsTo_none (by rw [hp]; exact e)]; omega
/-- at last it is a truth -/
theorem TS.tru {n : Nat} {t : Nat → Int} (h : TS d n 0 t) : Tru (fz d 0 t) n t where
  own := fun i hi => (finZ_ok (h.nn i hi) (h.bd i (Nat.zero_le _) hi)).2
  sum := fun i hi hne => by
    rw [← ksum_kids t i t n]
    refine h.sm i hi ?_
    obtain ⟨c, hc⟩ := List.exists_mem_of_ne_nil _ hne
    obtain ⟨h1, h2⟩ := mem_kidsTo.1 hc
    exact hasB_iff.2 ⟨c, h1, h2⟩
theorem TS.list {n : Nat} {t : Nat → Int} (h : TS d n 0 t) (h1 : 1 ≤ n) (h2 : n ≤ 12) : listB n (fz d 0 t) = true := by
  rw [listB_yes fun i hi => ?_]
  · unfold withinB; simp; omega
  · obtain ⟨⟨a1, a2, a3⟩, ⟨b1, b2, b3⟩, ⟨c1, c2, c3⟩, ⟨e1, e2, e3⟩⟩ := (finZ_ok (d := d) (i := i) (h.nn i hi) (h.bd i (Nat.zero_le _) hi)).1
    have hp := prt_bd (d := d) i
    refine zonB_true ?_ ?_ ?_ ?_ ?_
    · exact decide_eq_true ⟨a1, a2, a3⟩
    · exact decide_eq_true ⟨b1, b2, b3⟩
    · exact decide_eq_true ⟨e1, e2, e3⟩
    · exact decide_eq_true ⟨c1, c2, c3⟩
    · exact decide_eq_true (show -1 ≤ prt d i ∧ prt d i ≤ (i : Int) - 1 by omega)
end Go.Proofs.Ytipnaeijbbbdoaa
