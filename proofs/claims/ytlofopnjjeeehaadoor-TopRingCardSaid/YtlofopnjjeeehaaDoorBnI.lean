/- The best of a list is the best of what is behind its first one; plain, no program in sight. What Water returns is within bounds; what Flow returns; plain, no program in sight. Whatever is true lies within what Water tells: fractions in order; the value of a table rises, or lies between the extremes; plain, no program in sight. What the tests of a row tell: the water and why it is not known, the errors of a meter, whether it passes, the gap of two; plain, no program in sight. What is so of a row that was tested; how long the answer is; plain, no program in sight. Whether a meter passes; plain, no program in sight. By how much two meters differ; plain, no program in sight. Whether a meter passes: the document's answer is the program's; plain, no program in sight. -/
import Derived.Test.YtlofopnjjeeehaaDoorBnG
import Derived.Test.YtlofopnjjeeehaaDoorBnH
namespace Go.Proofs.YtlofopnjjeeehaaDoor.Bn
open Go.RowKit
def densL (n : Nat) (t : Nat → Mark) (s : Spn) : List Frac := tabAt n t s.hi :: insL t s n
def densF (n : Nat) (t : Nat → Mark) (s : Spn) (i : Nat) : Frac := (densL n t s).getD i ⟨1, 1⟩
theorem best_shift {better : Frac → Frac → Bool} (hirr : ∀ a, better a a = false) {t u : Nat → Frac} {f : Frac} (h0 : t 0 = f) (hs : ∀ i, t (i + 1) = u i) : ∀ k, bestN better t f (k + 1) = bestN better u f k
  | 0 => by
    show (if better (t 0) f then t 0 else f) = f
    rw [h0, hirr]; rfl
  | k + 1 => by
    show (if better (t (k + 1)) (bestN better t f (k + 1)) then t (k + 1) else bestN better t f (k + 1)) = if better (u k) (bestN better u f k) then u k else bestN better u f k
    rw [best_shift hirr h0 hs k, hs]
theorem lt_irr (a : Frac) : a.lt a = false := by simp [Frac.lt]
theorem thin_eq (b : Bnch) (x : Ctch) : b.thin x = bestN Frac.lt (densF b.n b.t x.warm) (tabAt b.n b.t x.warm.lo) (densL b.n b.t x.warm).length :=
  best_shift (t := extF b.n b.t x.warm) lt_irr rfl (fun _ => rfl) _
theorem thick_eq (b : Bnch) (x : Ctch) : b.thick x = bestN (fun a b => Frac.lt b a) (densF b.n b.t x.warm) (tabAt b.n b.t x.warm.lo) (densL b.n b.t x.warm).length :=
  best_shift (better := fun a b => Frac.lt b a) (t := extF b.n b.t x.warm) lt_irr rfl (fun _ => rfl) _
/-- a fraction lies in a box of the call's own -/
structure PC (g : Nat) (f : Frac) (w : World) : Prop where
  c0 : w.cell? ⟨g, 0, none⟩ = some (.int .i64 f.top)
  c1 : w.cell? ⟨g, 1, none⟩ = some (.int .i64 f.under)
  z0 : w.frozen? ⟨g, 0, none⟩ = false
  z1 : w.frozen? ⟨g, 1, none⟩ = false
theorem PC.lt {g : Nat} {f : Frac} {w : World} (h : PC g f w) : g < w.heap.size := World.block_lt_of_cell? w ⟨g, 0, none⟩ h.c0
theorem PC.below {g : Nat} {f : Frac} {w w' : World} (h : PC g f w) (hb : Below w.heap.size w w') : PC g f w' := ⟨(hb.cell (p := ⟨g, 0, none⟩) h.lt).trans h.c0, (hb.cell (p := ⟨g, 1, none⟩) h.lt).trans h.c1, (hb.frozen (p := ⟨g, 0, none⟩) h.lt).trans h.z0, (hb.frozen (p := ⟨g, 1, none⟩) h.lt).trans h.z1⟩
theorem PC.set {g : Nat} {f : Frac} {w : World} (h : PC g f w) (f' : Frac) : PC g f' ((w.setCell ⟨g, 0, none⟩ (.int .i64 f'.top)).setCell ⟨g, 1, none⟩ (.int .i64 f'.under)) := by
  have p := put2 h.c0 h.c1 (.int .i64 f'.top) (.int .i64 f'.under)
  have z0 := h.z0
  have z1 := h.z1
  exact ⟨(World.cell?_setCell_other _ _ _ _ (by simp)).trans p.1, p.2, by simpa [go_sem] using z0, by simpa [go_sem] using z1⟩
theorem PC.other {g k i : Nat} {v : Value} {f : Frac} {w : World} (h : PC g f w) (hne : g ≠ k) : PC g f (w.setCell ⟨k, i, none⟩ v) := by
  have e : (w.setCell ⟨k, i, none⟩ v).heap[g]? = w.heap[g]? := Below.heap_setCell w ⟨k, i, none⟩ v g hne
  exact ⟨(World.cell?_of_block (w := w) e).trans h.c0, (World.cell?_of_block (w := w) e).trans h.c1, (World.frozen?_of_block (w := w) (a := ⟨g, 0, none⟩) e).trans h.z0, (World.frozen?_of_block (w := w) (a := ⟨g, 1, none⟩) e).trans h.z1⟩
end Go.Proofs.YtlofopnjjeeehaaDoor.Bn
namespace Go.Proofs.YtlofopnjjeeehaaDoor.Bn
/-- Water's answer: an error, or a span of at least one litre -/
theorem waterR_form (b : Bnch) (x : Ctch) : ((b.waterR x).1 = ⟨0, 0⟩ ∧ ((b.waterR x).2 = 1 ∨ (b.waterR x).2 = 2 ∨ (b.waterR x).2 = 10)) ∨
    ((b.waterR x).2 = 0 ∧ 1 ≤ (b.waterR x).1.lo ∧ (b.waterR x).1.lo ≤ 50000010000000 ∧ -50000000000000 ≤ (b.waterR x).1.hi ∧ (b.waterR x).1.hi ≤ 50000010000000) := by
  by_cases hv : b.valid = true
  · by_cases hr : b.rightB x = true
    · by_cases hs : ((b.waterF x).2.2 && decide ((b.waterF x).1.under ≤ (b.waterF x).1.top)) = true
      · right
        rw [waterR_yes hv hr hs]
        simp only [Bool.and_eq_true, decide_eq_true_eq] at hs
        obtain ⟨O1, O2⟩ := water_ok hv hr hs.1
        have d1 := O1.down
        have d2 := O2.up
        have ha := (valid_all hv).2.2.2.2.2
        have d3 : 1 ≤ (b.waterF x).1.down := (Int.le_ediv_iff_mul_le O1.u0).2 (by omega)
        dsimp only
        omega
      · left
        rw [waterR_no hv hr hs]
        exact ⟨rfl, .inr (.inr rfl)⟩
    · left
      unfold Bnch.waterR
      rw [if_pos hv, if_neg hr]
      exact ⟨rfl, .inr (.inl rfl)⟩
  · left
    unfold Bnch.waterR
    rw [if_neg hv]
    exact ⟨rfl, .inl rfl⟩
def Bnch.flowR (b : Bnch) (x : Ctch) (s : Spn) : Spn × Int :=
  if (b.waterR x).2 = 0 then
    if spanB s 1 100000000 then (⟨rnd 0 ((b.waterR x).1.lo * 3600) s.hi, rnd 1 ((b.waterR x).1.hi * 3600) s.lo⟩, 0) else (⟨0, 0⟩, 2)
  else (⟨0, 0⟩, (b.waterR x).2)
end Go.Proofs.YtlofopnjjeeehaaDoor.Bn
namespace Go.Proofs.YtlofopnjjeeehaaDoor.Bn
/-- one fraction is at most another one -/
def Frac.le (a b : Frac) : Prop := a.top * b.under ≤ b.top * a.under
theorem Frac.le_refl (a : Frac) : a.le a := Int.le_refl _
theorem Frac.le_trans {a b c : Frac} (ha : 0 < a.under) (hb : 0 < b.under) (hc : 0 < c.under) (h1 : a.le b) (h2 : b.le c) : a.le c := by
  unfold Frac.le at *
  have e1 := Int.mul_le_mul_of_nonneg_right h1 (Int.le_of_lt hc)
  have e2 := Int.mul_le_mul_of_nonneg_right h2 (Int.le_of_lt ha)
  refine Int.le_of_mul_le_mul_right ?_ hb
  have r1 : a.top * c.under * b.under = a.top * b.under * c.under := by rw [Int.mul_right_comm]
  have r2 : b.top * a.under * c.under = b.top * c.under * a.under := by rw [Int.mul_right_comm]
  have r3 : c.top * a.under * b.under = c.top * b.under * a.under := by rw [Int.mul_right_comm]
  omega
theorem Frac.not_lt {a b : Frac} : a.lt b = false ↔ b.le a := by simp [Frac.lt, Frac.le]
theorem Frac.le_of_lt {a b : Frac} (h : a.lt b = true) : a.le b := by simp [Frac.lt, Frac.le] at *; omega
theorem Frac.down_mono {a b : Frac} (ha : 0 < a.under) (hb : 0 < b.under) (h : a.le b) : a.down ≤ b.down := by
  unfold Frac.down
  refine (Int.le_ediv_iff_mul_le hb).2 ?_
  have h1 : a.top / a.under * a.under ≤ a.top := Int.ediv_mul_le _ (by omega)
  have h2 := Int.mul_le_mul_of_nonneg_right h1 (Int.le_of_lt hb)
  unfold Frac.le at h
  refine Int.le_of_mul_le_mul_right ?_ ha
  have r1 : a.top / a.under * b.under * a.under = a.top / a.under * a.under * b.under := by rw [Int.mul_right_comm]
  omega
theorem Frac.up_mono {a b : Frac} (ha : 0 < a.under) (hb : 0 < b.under) (h : a.le b) : a.up ≤ b.up := by
  have h1 : Frac.down ⟨-b.top, b.under⟩ ≤ Frac.down ⟨-a.top, a.under⟩ := Frac.down_mono (a := ⟨-b.top, b.under⟩) (b := ⟨-a.top, a.under⟩) hb ha (by simp only [Frac.le, Int.neg_mul] at *; omega)
  unfold Frac.up
  unfold Frac.down at h1
  simp only at h1
  omega
theorem Frac.down_up {a : Frac} (ha : 0 < a.under) : a.down ≤ a.up ∧ a.up ≤ a.down + 1 := by
  unfold Frac.down Frac.up
  have h1 : a.top / a.under * a.under ≤ a.top := Int.ediv_mul_le _ (by omega)
  have h2 := Int.lt_ediv_add_one_mul_self a.top ha
  constructor
  · have : (-a.top) / a.under ≤ -(a.top / a.under) := by
      have h3 : (-a.top) / a.under < -(a.top / a.under) + 1 := (Int.ediv_lt_iff_lt_mul ha).2 (by
        rw [Int.add_mul, Int.neg_mul]; omega)
      omega
    omega
  · have : -(a.top / a.under + 1) ≤ (-a.top) / a.under := (Int.le_ediv_iff_mul_le ha).2 (by
      rw [Int.neg_mul]; omega)
    omega
theorem Frac.down_le {a : Frac} (ha : 0 < a.under) : a.down * a.under ≤ a.top := Int.ediv_mul_le _ (by omega)
theorem Frac.lt_down {a : Frac} (ha : 0 < a.under) : a.top < (a.down + 1) * a.under := Int.lt_ediv_add_one_mul_self a.top ha
theorem Frac.le_up {a : Frac} (ha : 0 < a.under) : a.top ≤ a.up * a.under := by
  have := Int.ediv_mul_le (-a.top) (b := a.under) (by omega)
  unfold Frac.up
  rw [Int.neg_mul]; omega
theorem Frac.up_lt {a : Frac} (ha : 0 < a.under) : (a.up - 1) * a.under < a.top := by
  have := Int.lt_ediv_add_one_mul_self (-a.top) ha
  unfold Frac.up
  rw [Int.add_mul] at this
  rw [Int.sub_mul, Int.neg_mul]; omega
/-- the least of a list is at most each one -/
theorem least_le {t : Nat → Frac} {f : Frac} (hf : 0 < f.under) : ∀ {k : Nat}, (∀ i, i < k → 0 < (t i).under) → 0 < (bestN Frac.lt t f k).under ∧ (bestN Frac.lt t f k).le f ∧ ∀ i, i < k → (bestN Frac.lt t f k).le (t i)
  | 0, _ => ⟨hf, Frac.le_refl _, fun i hi => absurd hi (by omega)⟩
  | k + 1, hu => by
    obtain ⟨p0, p1, p2⟩ := least_le (t := t) hf (k := k) (fun i hi => hu i (by omega))
    have hk := hu k (by omega)
    show 0 < (if (t k).lt (bestN Frac.lt t f k) then t k else bestN Frac.lt t f k).under ∧ (if (t k).lt (bestN Frac.lt t f k) then t k else bestN Frac.lt t f k).le f ∧ ∀ i, i < k + 1 → (if (t k).lt (bestN Frac.lt t f k) then t k else bestN Frac.lt t f k).le (t i)
    by_cases h : (t k).lt (bestN Frac.lt t f k) = true
    · rw [if_pos h]
      have h2 := Frac.le_of_lt h
      refine ⟨hk, Frac.le_trans hk p0 hf h2 p1, fun i hi => ?_⟩
      by_cases e : i = k
      · subst e; exact Frac.le_refl _
      · exact Frac.le_trans hk p0 (hu i (by omega)) h2 (p2 i (by omega))
    · rw [if_neg h]
      refine ⟨p0, p1, fun i hi => ?_⟩
      by_cases e : i = k
      · subst e; exact Frac.not_lt.1 (by simpa using h)
      · exact p2 i (by omega)
theorem le_most {t : Nat → Frac} {f : Frac} (hf : 0 < f.under) : ∀ {k : Nat}, (∀ i, i < k → 0 < (t i).under) → 0 < (bestN (fun a b => Frac.lt b a) t f k).under ∧ f.le (bestN (fun a b => Frac.lt b a) t f k) ∧ ∀ i, i < k → (t i).le (bestN (fun a b => Frac.lt b a) t f k)
  | 0, _ => ⟨hf, Frac.le_refl _, fun i hi => absurd hi (by omega)⟩
  | k + 1, hu => by
    obtain ⟨p0, p1, p2⟩ := le_most (t := t) hf (k := k) (fun i hi => hu i (by omega))
    have hk := hu k (by omega)
    show 0 < (if (bestN (fun a b => Frac.lt b a) t f k).lt (t k) then t k else bestN (fun a b => Frac.lt b a) t f k).under ∧ f.le (if (bestN (fun a b => Frac.lt b a) t f k).lt (t k) then t k else bestN (fun a b => Frac.lt b a) t f k) ∧ ∀ i, i < k + 1 → (t i).le (if (bestN (fun a b => Frac.lt b a) t f k).lt (t k) then t k else bestN (fun a b => Frac.lt b a) t f k)
    by_cases h : (bestN (fun a b => Frac.lt b a) t f k).lt (t k) = true
    · rw [if_pos h]
      have h2 := Frac.le_of_lt h
      refine ⟨hk, Frac.le_trans hf p0 hk p1 h2, fun i hi => ?_⟩
      by_cases e : i = k
      · subst e; exact Frac.le_refl _
      · exact Frac.le_trans (hu i (by omega)) p0 hk (p2 i (by omega)) h2
    · rw [if_neg h]
      refine ⟨p0, p1, fun i hi => ?_⟩
      by_cases e : i = k
      · subst e; exact Frac.not_lt.1 (by simpa using h)
      · exact p2 i (by omega)
/-- between marks a table is a line -/
theorem line_le {v0 v1 a0 a1 l x h T U : Int} (hU : 0 < U) (hl : l ≤ x) (hh : x ≤ h)
    (h1 : T * (a1 - a0) ≤ (v0 * (a1 - a0) + (v1 - v0) * (l - a0)) * U) (h2 : T * (a1 - a0) ≤ (v0 * (a1 - a0) + (v1 - v0) * (h - a0)) * U) :
    T * (a1 - a0) ≤ (v0 * (a1 - a0) + (v1 - v0) * (x - a0)) * U := by
  by_cases hs : 0 ≤ v1 - v0
  · have := Int.mul_le_mul_of_nonneg_left (c := v1 - v0) (show l - a0 ≤ x - a0 by omega) hs
    have := Int.mul_le_mul_of_nonneg_right (show v0 * (a1 - a0) + (v1 - v0) * (l - a0) ≤ v0 * (a1 - a0) + (v1 - v0) * (x - a0) by omega) (Int.le_of_lt hU)
    omega
  · have h3 := Int.mul_le_mul_of_nonneg_left (c := v0 - v1) (show x - a0 ≤ h - a0 by omega) (by omega)
    have e1 : (v1 - v0) * (x - a0) = -((v0 - v1) * (x - a0)) := by rw [← Int.neg_mul]; congr 1; omega
    have e2 : (v1 - v0) * (h - a0) = -((v0 - v1) * (h - a0)) := by rw [← Int.neg_mul]; congr 1; omega
    have := Int.mul_le_mul_of_nonneg_right (show v0 * (a1 - a0) + (v1 - v0) * (h - a0) ≤ v0 * (a1 - a0) + (v1 - v0) * (x - a0) by omega) (Int.le_of_lt hU)
    omega
theorem le_line {v0 v1 a0 a1 l x h T U : Int} (hU : 0 < U) (hl : l ≤ x) (hh : x ≤ h)
    (h1 : (v0 * (a1 - a0) + (v1 - v0) * (l - a0)) * U ≤ T * (a1 - a0)) (h2 : (v0 * (a1 - a0) + (v1 - v0) * (h - a0)) * U ≤ T * (a1 - a0)) :
    (v0 * (a1 - a0) + (v1 - v0) * (x - a0)) * U ≤ T * (a1 - a0) := by
  by_cases hs : 0 ≤ v1 - v0
  · have := Int.mul_le_mul_of_nonneg_left (c := v1 - v0) (show x - a0 ≤ h - a0 by omega) hs
    have := Int.mul_le_mul_of_nonneg_right (show v0 * (a1 - a0) + (v1 - v0) * (x - a0) ≤ v0 * (a1 - a0) + (v1 - v0) * (h - a0) by omega) (Int.le_of_lt hU)
    omega
  · have h3 := Int.mul_le_mul_of_nonneg_left (c := v0 - v1) (show l - a0 ≤ x - a0 by omega) (by omega)
    have e1 : (v1 - v0) * (x - a0) = -((v0 - v1) * (x - a0)) := by rw [← Int.neg_mul]; congr 1; omega
    have e2 : (v1 - v0) * (l - a0) = -((v0 - v1) * (l - a0)) := by rw [← Int.neg_mul]; congr 1; omega
    have := Int.mul_le_mul_of_nonneg_right (show v0 * (a1 - a0) + (v1 - v0) * (x - a0) ≤ v0 * (a1 - a0) + (v1 - v0) * (l - a0) by omega) (Int.le_of_lt hU)
    omega
/-- the mark behind a number, by what it is -/
theorem tabI_is {n i : Nat} {t : Nat → Mark} {x : Int} (h : Tab n t) (i1 : 1 ≤ i) (i2 : i < n) (h1 : (t (i - 1)).at_ < x ∨ i = 1) (h2 : x ≤ (t i).at_) : tabI n t x = i := by
  refine firstFrom_eq i1 (by omega) (fun j hj hm => ?_) (by simpa using h2)
  have := h.mono (i := j) (j := i - 1) (by omega) (by omega)
  simp
  omega
/-- the value of a table lies between those at both ends of a span, and at the marks in it -/
theorem tab_between {n : Nat} {t : Nat → Mark} {s : Spn} {x : Int} {F : Frac} (hV : Tab n t) (h0 : (t 0).at_ ≤ s.lo) (h1 : s.lo ≤ x) (h2 : x ≤ s.hi) (h3 : s.hi ≤ (t (n - 1)).at_) (hF : 0 < F.under)
    (hlo : F.le (tabAt n t s.lo)) (hhi : F.le (tabAt n t s.hi)) (hm : ∀ i, i < n → withinB (t i).at_ s.lo s.hi = true → F.le ⟨(t i).value, 1⟩) : F.le (tabAt n t x) := by
  obtain ⟨i1, i2, i3, i4⟩ := tabI_spec hV.two (show x ≤ (t (n - 1)).at_ by omega)
  obtain ⟨s1, s2⟩ := at_step hV i1 i2 (fun j a b => by have := i3 j a b; omega) (show (t 0).at_ ≤ x by omega)
  unfold tabAt at hlo hhi ⊢
  generalize hI : tabI n t x = i at *
  have L : F.top * ((t i).at_ - (t (i - 1)).at_) ≤ ((t (i - 1)).value * ((t i).at_ - (t (i - 1)).at_) + ((t i).value - (t (i - 1)).value) * (max s.lo (t (i - 1)).at_ - (t (i - 1)).at_)) * F.under := by
    by_cases hl : s.lo ≤ (t (i - 1)).at_
    · have q := hm (i - 1) (by omega) (by simp [withinB]; omega)
      have := Int.mul_le_mul_of_nonneg_right q (show 0 ≤ (t i).at_ - (t (i - 1)).at_ by omega)
      rw [Int.max_eq_right hl, Int.sub_self, Int.mul_zero, Int.add_zero]
      simp only [Int.mul_one] at this
      rw [Int.mul_right_comm]
      exact this
    · have e : tabI n t s.lo = i := tabI_is hV i1 i2 (by omega) (by omega)
      rw [e] at hlo
      rw [Int.max_eq_left (by omega)]
      exact hlo
  have H : F.top * ((t i).at_ - (t (i - 1)).at_) ≤ ((t (i - 1)).value * ((t i).at_ - (t (i - 1)).at_) + ((t i).value - (t (i - 1)).value) * (min s.hi (t i).at_ - (t (i - 1)).at_)) * F.under := by
    by_cases hl : (t i).at_ ≤ s.hi
    · have q := hm i (by omega) (by simp [withinB]; omega)
      have := Int.mul_le_mul_of_nonneg_right q (show 0 ≤ (t i).at_ - (t (i - 1)).at_ by omega)
      rw [Int.min_eq_right hl, ← Int.add_mul]
      simp only [Int.mul_one] at this
      rw [show (t (i - 1)).value + ((t i).value - (t (i - 1)).value) = (t i).value by omega, Int.mul_right_comm]
      exact this
    · have e : tabI n t s.hi = i := tabI_is hV i1 i2 (by
        by_cases hi : i = 1
        · exact .inr hi
        · left
          have := i3 (i - 1) (by omega) (by omega)
          omega) (by omega)
      rw [e] at hhi
      rw [Int.min_eq_left (by omega)]
      exact hhi
  exact line_le hF (by omega) (by omega) L H
theorem between_tab {n : Nat} {t : Nat → Mark} {s : Spn} {x : Int} {F : Frac} (hV : Tab n t) (h0 : (t 0).at_ ≤ s.lo) (h1 : s.lo ≤ x) (h2 : x ≤ s.hi) (h3 : s.hi ≤ (t (n - 1)).at_) (hF : 0 < F.under)
    (hlo : (tabAt n t s.lo).le F) (hhi : (tabAt n t s.hi).le F) (hm : ∀ i, i < n → withinB (t i).at_ s.lo s.hi = true → Frac.le ⟨(t i).value, 1⟩ F) : (tabAt n t x).le F := by
  obtain ⟨i1, i2, i3, i4⟩ := tabI_spec hV.two (show x ≤ (t (n - 1)).at_ by omega)
  obtain ⟨s1, s2⟩ := at_step hV i1 i2 (fun j a b => by have := i3 j a b; omega) (show (t 0).at_ ≤ x by omega)
  unfold tabAt at hlo hhi ⊢
  generalize hI : tabI n t x = i at *
  have L : ((t (i - 1)).value * ((t i).at_ - (t (i - 1)).at_) + ((t i).value - (t (i - 1)).value) * (max s.lo (t (i - 1)).at_ - (t (i - 1)).at_)) * F.under ≤ F.top * ((t i).at_ - (t (i - 1)).at_) := by
    by_cases hl : s.lo ≤ (t (i - 1)).at_
    · have q := hm (i - 1) (by omega) (by simp [withinB]; omega)
      have := Int.mul_le_mul_of_nonneg_right q (show 0 ≤ (t i).at_ - (t (i - 1)).at_ by omega)
      rw [Int.max_eq_right hl, Int.sub_self, Int.mul_zero, Int.add_zero]
      simp only [Int.mul_one] at this
      rw [Int.mul_right_comm]
      exact this
    · have e : tabI n t s.lo = i := tabI_is hV i1 i2 (by omega) (by omega)
      rw [e] at hlo
      rw [Int.max_eq_left (by omega)]
      exact hlo
  have H : ((t (i - 1)).value * ((t i).at_ - (t (i - 1)).at_) + ((t i).value - (t (i - 1)).value) * (min s.hi (t i).at_ - (t (i - 1)).at_)) * F.under ≤ F.top * ((t i).at_ - (t (i - 1)).at_) := by
    by_cases hl : (t i).at_ ≤ s.hi
    · have q := hm i (by omega) (by simp [withinB]; omega)
      have := Int.mul_le_mul_of_nonneg_right q (show 0 ≤ (t i).at_ - (t (i - 1)).at_ by omega)
      rw [Int.min_eq_right hl, ← Int.add_mul]
      simp only [Int.mul_one] at this
      rw [show (t (i - 1)).value + ((t i).value - (t (i - 1)).value) = (t i).value by omega, Int.mul_right_comm]
      exact this
    · have e : tabI n t s.hi = i := tabI_is hV i1 i2 (by
        by_cases hi : i = 1
        · exact .inr hi
        · left
          have := i3 (i - 1) (by omega) (by omega)
          omega) (by omega)
      rw [e] at hhi
      rw [Int.min_eq_left (by omega)]
      exact hhi
  exact le_line hF (by omega) (by omega) L H
/-- a table that never falls -/
theorem tab_rise {n : Nat} {t : Nat → Mark} {x y : Int} (hV : Tab n t) (hr : ∀ i, i + 1 < n → (t i).value ≤ (t (i + 1)).value) (h0 : (t 0).at_ ≤ x) (h1 : x ≤ y) (h2 : y ≤ (t (n - 1)).at_) : (tabAt n t x).le (tabAt n t y) := by
  have hm : ∀ {i j : Nat}, i ≤ j → j < n → (t i).value ≤ (t j).value := by
    intro i j hij
    induction j with
    | zero => intro _; obtain rfl : i = 0 := by omega
              exact Int.le_refl _
    | succ j ih =>
      intro hj
      by_cases e : i = j + 1
      · subst e; exact Int.le_refl _
      · have := ih (by omega) (by omega)
        have := hr j hj
        omega
  obtain ⟨i1, i2, i3, i4⟩ := tabI_spec hV.two (show x ≤ (t (n - 1)).at_ by omega)
  obtain ⟨s1, s2⟩ := at_step hV i1 i2 (fun j a b => by have := i3 j a b; omega) h0
  obtain ⟨j1, j2, j3, j4⟩ := tabI_spec hV.two h2
  obtain ⟨r1, r2⟩ := at_step hV j1 j2 (fun j a b => by have := j3 j a b; omega) (show (t 0).at_ ≤ y by omega)
  unfold tabAt
  generalize tabI n t x = i at *
  generalize tabI n t y = j at *
  have m1 := hm (i := i - 1) (j := i) (by omega) i2
  have m2 := hm (i := j - 1) (j := j) (by omega) j2
  by_cases e : i = j
  · subst e
    have := Int.mul_le_mul_of_nonneg_left (c := (t i).value - (t (i - 1)).value) (show x - (t (i - 1)).at_ ≤ y - (t (i - 1)).at_ by omega) (by omega)
    exact Int.mul_le_mul_of_nonneg_right (show (t (i - 1)).value * ((t i).at_ - (t (i - 1)).at_) + ((t i).value - (t (i - 1)).value) * (x - (t (i - 1)).at_) ≤ (t (i - 1)).value * ((t i).at_ - (t (i - 1)).at_) + ((t i).value - (t (i - 1)).value) * (y - (t (i - 1)).at_) by omega) (show 0 ≤ (t i).at_ - (t (i - 1)).at_ by omega)
  · have hij : i < j := by
      by_cases hlt : i < j
      · exact hlt
      · exact absurd (Int.le_trans h1 j4) (i3 j j1 (by omega))
    have m3 := hm (i := i) (j := j - 1) (by omega) (by omega)
    -- at most the mark behind the one, at least the mark before the other
    have a1 : (t (i - 1)).value * ((t i).at_ - (t (i - 1)).at_) + ((t i).value - (t (i - 1)).value) * (x - (t (i - 1)).at_) ≤ (t i).value * ((t i).at_ - (t (i - 1)).at_) := by
      have := Int.mul_le_mul_of_nonneg_left (c := (t i).value - (t (i - 1)).value) (show x - (t (i - 1)).at_ ≤ (t i).at_ - (t (i - 1)).at_ by omega) (by omega)
      rw [Int.sub_mul (t i).value _ ((t i).at_ - (t (i - 1)).at_)] at this
      omega
    have a2 : (t (j - 1)).value * ((t j).at_ - (t (j - 1)).at_) ≤ (t (j - 1)).value * ((t j).at_ - (t (j - 1)).at_) + ((t j).value - (t (j - 1)).value) * (y - (t (j - 1)).at_) := by
      have := Int.mul_nonneg (a := (t j).value - (t (j - 1)).value) (b := y - (t (j - 1)).at_) (by omega) (by omega)
      omega
    exact Frac.le_trans (a := atF t i x) (b := ⟨(t i).value, 1⟩) (c := atF t j y) (show 0 < (t i).at_ - (t (i - 1)).at_ by omega) (by simp) (show 0 < (t j).at_ - (t (j - 1)).at_ by omega)
      (by simpa [Frac.le, atF] using a1) (by
        have := Int.mul_le_mul_of_nonneg_right m3 (show 0 ≤ (t j).at_ - (t (j - 1)).at_ by omega)
        simp only [Frac.le, atF, Int.mul_one]; omega)
theorem minus_le {a b a' b' : Frac} {n n' : Int} (ha : 0 < a.under) (hb : 0 < b.under) (ha' : 0 < a'.under) (hb' : 0 < b'.under) (h1 : a.le a') (h2 : b'.le b) (hn : n' ≤ n) : (a.minus b n).le (a'.minus b' n') := by
  unfold Frac.le at *
  have p1 := Int.mul_pos hb hb'
  have p2 := Int.mul_pos ha ha'
  have p3 := Int.mul_pos p1 p2
  have e1 := Int.mul_le_mul_of_nonneg_right h1 (Int.le_of_lt p1)
  have e2 := Int.mul_le_mul_of_nonneg_right h2 (Int.le_of_lt p2)
  have e3 := Int.mul_le_mul_of_nonneg_right hn (Int.le_of_lt p3)
  simp only [Frac.minus]
  generalize a.top = A at *
  generalize a.under = α at *
  generalize b.top = B at *
  generalize b.under = β at *
  generalize a'.top = A' at *
  generalize a'.under = α' at *
  generalize b'.top = B' at *
  generalize b'.under = β' at *
  clear h1 h2 hn ha hb ha' hb' p1 p2 p3
  grind
/-- what is true lies between the ends: a tank -/
theorem tank_true {b : Bnch} {x : Ctch} (hv : b.valid = true) (hr : b.tankOk x = true) (hw : b.weighs = false) {s f g : Int} (hs : x.beg.lo ≤ s ∧ s ≤ x.beg.hi) (hf : x.fin.lo ≤ f ∧ f ≤ x.fin.hi) (hg : -(2 * b.off) ≤ g ∧ g ≤ 2 * b.off) :
    ((b.tankW x).1).le ((tabAt b.n b.t f).minus (tabAt b.n b.t s) (-g)) ∧ ((tabAt b.n b.t f).minus (tabAt b.n b.t s) (-g)).le (b.tankW x).2.1 := by
  have hV := valid_tab hv
  have hrise := valid_rise hv hw
  have hr : ((b.t 0).at_ ≤ x.beg.lo ∧ x.beg.lo ≤ x.beg.hi ∧ x.beg.hi ≤ (b.t (b.n - 1)).at_) ∧ ((b.t 0).at_ ≤ x.fin.lo ∧ x.fin.lo ≤ x.fin.hi ∧ x.fin.hi ≤ (b.t (b.n - 1)).at_) := by
    simp only [Bnch.tankOk, spanB, Bool.and_eq_true, decide_eq_true_eq] at hr
    exact hr
  obtain ⟨⟨p1, p2, p3⟩, p4, p5, p6⟩ := hr
  have D : ∀ z : Int, (b.t 0).at_ ≤ z → z ≤ (b.t (b.n - 1)).at_ → 0 < (tabAt b.n b.t z).under := fun z h0 h1 => (at_dense hV h0 h1).u0
  have d1 := D x.fin.lo (by omega) (by omega)
  have d2 := D x.beg.hi (by omega) (by omega)
  have d3 := D f (by omega) (by omega)
  have d4 := D s (by omega) (by omega)
  have d5 := D x.fin.hi (by omega) (by omega)
  have d6 := D x.beg.lo (by omega) (by omega)
  refine ⟨?_, ?_⟩
  · exact minus_le (a := tabAt b.n b.t x.fin.lo) (b := tabAt b.n b.t x.beg.hi) d1 d2 d3 d4 (tab_rise hV hrise (by omega) (by omega) (by omega)) (tab_rise hV hrise (by omega) (by omega) (by omega)) (by omega)
  · exact minus_le (a' := tabAt b.n b.t x.fin.hi) (b' := tabAt b.n b.t x.beg.lo) d3 d4 d5 d6 (tab_rise hV hrise (by omega) (by omega) (by omega)) (tab_rise hV hrise (by omega) (by omega) (by omega)) (by omega)
/-- the density at a warmth lies between the extremes -/
theorem dense_true {b : Bnch} {x : Ctch} (hV : Tab b.n b.t) (h0 : (b.t 0).at_ ≤ x.warm.lo) (h3 : x.warm.hi ≤ (b.t (b.n - 1)).at_) {z : Int} (h1 : x.warm.lo ≤ z) (h2 : z ≤ x.warm.hi) :
    (0 < (b.thin x).under ∧ (b.thin x).le (tabAt b.n b.t z)) ∧ (0 < (b.thick x).under ∧ (tabAt b.n b.t z).le (b.thick x)) := by
  have d0 := at_dense hV h0 (Int.le_trans (Int.le_trans h1 h2) h3)
  have da := ext_dense hV h0 (Int.le_trans h1 h2) h3
  obtain ⟨u1, u2, u3⟩ := least_le (t := extF b.n b.t x.warm) d0.u0 (k := (extL b.n b.t x.warm b.n).length) (fun i hi => (da i hi).u0)
  obtain ⟨v1, v2, v3⟩ := le_most (t := extF b.n b.t x.warm) d0.u0 (k := (extL b.n b.t x.warm b.n).length) (fun i hi => (da i hi).u0)
  have two : 1 < (extL b.n b.t x.warm b.n).length := by simp [extL]
  have mk : ∀ i, i < b.n → withinB (b.t i).at_ x.warm.lo x.warm.hi = true → ∃ k, k < (extL b.n b.t x.warm b.n).length ∧ extF b.n b.t x.warm k = ⟨(b.t i).value, 1⟩ := fun i hi hw => by
    have hmem : (⟨(b.t i).value, 1⟩ : Frac) ∈ extL b.n b.t x.warm b.n := by
      simp only [extL, insL, List.mem_cons, List.mem_map, List.mem_filter, List.mem_range]
      exact .inr (.inr ⟨i, ⟨hi, hw⟩, rfl⟩)
    obtain ⟨k, hk, e⟩ := List.getElem_of_mem hmem
    exact ⟨k, hk, by simp [extF, List.getD_eq_getElem?_getD, List.getElem?_eq_getElem hk, e]⟩
  refine ⟨⟨u1, tab_between hV h0 h1 h2 h3 u1 u2 (u3 1 two) fun i hi hw => ?_⟩, v1, between_tab hV h0 h1 h2 h3 v1 v2 (v3 1 two) fun i hi hw => ?_⟩
  · obtain ⟨k, hk, e⟩ := mk i hi hw
    rw [← e]; exact u3 k hk
  · obtain ⟨k, hk, e⟩ := mk i hi hw
    rw [← e]; exact v3 k hk
theorem scale_le {g g' y y' : Int} {d d' : Frac} (h0 : 0 ≤ g) (hg : g ≤ g') (hy0 : 0 ≤ y) (hy : y ≤ y') (hd : 0 < d.under) (_ : 0 < d.top) (_ : 0 < d'.under) (hd2' : 0 < d'.top) (h : d'.le d) :
    Frac.le ⟨g * (1000000 + y) * d.under, d.top⟩ ⟨g' * (1000000 + y') * d'.under, d'.top⟩ := by
  unfold Frac.le at *
  dsimp only
  have e1 : g * (1000000 + y) ≤ g' * (1000000 + y') := Int.mul_le_mul hg (by omega) (by omega) (by omega)
  have e0 : 0 ≤ g' * (1000000 + y') := Int.mul_nonneg (by omega) (by omega)
  have e2 := Int.mul_le_mul e1 h (Int.mul_nonneg (by omega) (by omega)) e0
  have r1 : g * (1000000 + y) * d.under * d'.top = g * (1000000 + y) * (d'.top * d.under) := by rw [Int.mul_assoc, Int.mul_comm d.under]
  have r2 : g' * (1000000 + y') * d'.under * d.top = g' * (1000000 + y') * (d.top * d'.under) := by rw [Int.mul_assoc, Int.mul_comm d'.under]
  omega
/-- what is true lies between the ends: a scale -/
theorem scale_true {b : Bnch} {x : Ctch} (hv : b.valid = true) (hr : b.scaleOk x = true) (hl : 0 < b.light x) {s f g y z : Int} (hs : x.beg.lo ≤ s ∧ s ≤ x.beg.hi) (hf : x.fin.lo ≤ f ∧ f ≤ x.fin.hi) (hg : -(2 * b.off) ≤ g ∧ g ≤ 2 * b.off)
    (hy : b.buoy.lo ≤ y ∧ y ≤ b.buoy.hi) (hz : x.warm.lo ≤ z ∧ z ≤ x.warm.hi) :
    ((b.scaleW x).1).le ⟨(f - s + g) * (1000000 + y) * (tabAt b.n b.t z).under, (tabAt b.n b.t z).top⟩ ∧ Frac.le ⟨(f - s + g) * (1000000 + y) * (tabAt b.n b.t z).under, (tabAt b.n b.t z).top⟩ (b.scaleW x).2.1 := by
  have hV := valid_tab hv
  obtain ⟨-, hn1, hn2, ho, hbu, hai⟩ := valid_all hv
  simp only [Bnch.scaleOk, spanB, Bool.and_eq_true, decide_eq_true_eq] at hr
  obtain ⟨⟨hx1, hx2⟩, hx3⟩ := hr
  have e1 : b.light x = x.fin.lo - x.beg.hi - 2 * b.off := rfl
  have e2 : b.heavy x = x.fin.hi - x.beg.lo + 2 * b.off := rfl
  have h0 : (b.t 0).at_ ≤ x.warm.lo := hx3.1
  have h3 : x.warm.hi ≤ (b.t (b.n - 1)).at_ := hx3.2.2
  obtain ⟨⟨a1, a2⟩, a3, a4⟩ := dense_true (x := x) hV h0 h3 hz.1 hz.2
  have d := at_dense hV (show (b.t 0).at_ ≤ z by omega) (show z ≤ (b.t (b.n - 1)).at_ by omega)
  have d0 := at_dense hV h0 (Int.le_trans hx3.2.1 hx3.2.2)
  have da := ext_dense hV hx3.1 hx3.2.1 hx3.2.2
  have DT : Dense (b.thin x) := bestN_dense (better := Frac.lt) (t := extF b.n b.t x.warm) d0 da
  have DK : Dense (b.thick x) := bestN_dense (better := fun a b => Frac.lt b a) (t := extF b.n b.t x.warm) d0 da
  have t1 := d.u0
  have t2 := d.t0
  have t3 := DT.t0
  have t4 := DK.t0
  unfold Bnch.scaleW
  rw [if_neg (by omega)]
  exact ⟨scale_le (by omega) (by omega) (by omega) hy.1 a3 (by omega) t1 (by omega) a4, scale_le (by omega) (by omega) (by omega) hy.2 t1 (by omega) a1 (by omega) a2⟩
/-- the span is one -/
theorem water_le {b : Bnch} {x : Ctch} (h : (b.waterR x).2 = 0) : (b.waterR x).1.lo ≤ (b.waterR x).1.hi := by
  by_cases hv : b.valid = true
  · by_cases hr : b.rightB x = true
    · by_cases hs : ((b.waterF x).2.2 && decide ((b.waterF x).1.under ≤ (b.waterF x).1.top)) = true
      · rw [waterR_yes hv hr hs]
        simp only [Bool.and_eq_true, decide_eq_true_eq] at hs
        obtain ⟨O1, O2⟩ := water_ok hv hr hs.1
        have ha := (valid_all hv).2.2.2.2.2
        have ho := (valid_all hv).2.2.2.1
        have hbu := (valid_all hv).2.2.2.2.1
        have key : ∃ m : Frac, 0 < m.under ∧ ((b.waterF x).1).le m ∧ m.le (b.waterF x).2.1 := by
          have hs1 := hs.1
          have hr2 := hr
          unfold Bnch.waterF at hs1 ⊢
          unfold Bnch.rightB at hr2
          by_cases hw : b.weighs = true
          · rw [if_pos hw] at hs1 hr2 ⊢
            have hl : 0 < b.light x := by
              by_cases hl : b.light x ≤ 0
              · unfold Bnch.scaleW at hs1
                rw [if_pos hl] at hs1; cases hs1
              · omega
            have hr3 := hr2
            simp only [Bnch.scaleOk, spanB, Bool.and_eq_true, decide_eq_true_eq] at hr3
            obtain ⟨⟨hx1, hx2⟩, hx3⟩ := hr3
            have h0 : (b.t 0).at_ ≤ x.warm.lo := hx3.1
            have h3 : x.warm.hi ≤ (b.t (b.n - 1)).at_ := hx3.2.2
            have d := at_dense (valid_tab hv) h0 (Int.le_trans hx3.2.1 h3)
            have := scale_true hv hr2 hl (s := x.beg.lo) (f := x.fin.hi) (g := 0) (y := b.buoy.lo) (z := x.warm.lo) (by omega) (by omega) (by omega) (by omega) (by omega)
            exact ⟨_, by have := d.t0; have := d.u0; show 0 < (tabAt b.n b.t x.warm.lo).top; omega, this⟩
          · rw [if_neg hw] at hs1 hr2 ⊢
            have hr3 : ((b.t 0).at_ ≤ x.beg.lo ∧ x.beg.lo ≤ x.beg.hi ∧ x.beg.hi ≤ (b.t (b.n - 1)).at_) ∧ ((b.t 0).at_ ≤ x.fin.lo ∧ x.fin.lo ≤ x.fin.hi ∧ x.fin.hi ≤ (b.t (b.n - 1)).at_) := by
              simp only [Bnch.tankOk, spanB, Bool.and_eq_true, decide_eq_true_eq] at hr2
              exact hr2
            have d1 := at_dense (valid_tab hv) (show (b.t 0).at_ ≤ x.beg.lo by omega) (by omega)
            have d2 := at_dense (valid_tab hv) (show (b.t 0).at_ ≤ x.fin.lo by omega) (by omega)
            have := tank_true hv hr2 (by simpa using hw) (s := x.beg.lo) (f := x.fin.lo) (g := 0) (by omega) (by omega) (by omega)
            exact ⟨_, Int.mul_pos d2.u0 d1.u0, this⟩
        obtain ⟨m, m0, m1, m2⟩ := key
        have q1 := Frac.down_mono O1.u0 m0 m1
        have q2 := Frac.up_mono m0 O2.u0 m2
        have q3 := (Frac.down_up m0).1
        dsimp only
        omega
      · rw [waterR_no hv hr hs] at h; simp at h
    · unfold Bnch.waterR at h
      rw [if_pos hv, if_neg hr] at h; simp at h
  · unfold Bnch.waterR at h
    rw [if_neg hv] at h; simp at h
end Go.Proofs.YtlofopnjjeeehaaDoor.Bn
namespace Go.Proofs.YtlofopnjjeeehaaDoor.Bn
def badS (s : Spn) : Bool := !spanB s 0 1073741824
def Bnch.testR (b : Bnch) (x : Ctch) (m : Nat) (r : Nat → Spn) : Spn × Int :=
  if (b.waterR x).2 = 0 then
    if 16 < m then (⟨0, 0⟩, 3) else if anyB m (fun i => badS (r i)) then (⟨0, 0⟩, 2) else ((b.waterR x).1, 0)
  else (⟨0, 0⟩, (b.waterR x).2)
/-- the errors of a meter that showed s, of the water v -/
def errR (v s : Spn) : Spn := ⟨rnd 0 (10000 * (s.lo - v.hi)) v.hi, rnd 1 (10000 * (s.hi - v.lo)) v.lo⟩
/-- what is so of a row that is tested -/
theorem testR_form (b : Bnch) (x : Ctch) (m : Nat) (r : Nat → Spn) : ((b.testR x m r).1 = ⟨0, 0⟩ ∧ ((b.testR x m r).2 = 1 ∨ (b.testR x m r).2 = 2 ∨ (b.testR x m r).2 = 3 ∨ (b.testR x m r).2 = 10)) ∨
    ((b.testR x m r).2 = 0 ∧ (b.waterR x).2 = 0 ∧ (b.testR x m r).1 = (b.waterR x).1 ∧ m ≤ 16 ∧ ∀ i, i < m → 0 ≤ (r i).lo ∧ (r i).lo ≤ (r i).hi ∧ (r i).hi ≤ 1073741824) := by
  unfold Bnch.testR
  by_cases h : (b.waterR x).2 = 0
  · rw [if_pos h]
    by_cases h1 : 16 < m
    · rw [if_pos h1]; exact .inl ⟨rfl, .inr (.inr (.inl rfl))⟩
    · rw [if_neg h1]
      by_cases h2 : anyB m (fun i => badS (r i)) = true
      · rw [if_pos h2]; exact .inl ⟨rfl, .inr (.inl rfl)⟩
      · rw [if_neg h2]
        refine .inr ⟨rfl, h, rfl, by omega, fun i hi => ?_⟩
        have h3 : badS (r i) = false := by
          cases hb : badS (r i)
          · rfl
          · exact absurd (anyB_iff.2 ⟨i, hi, hb⟩) h2
        simpa [badS, spanB] using h3
  · rw [if_neg h]
    refine .inl ⟨rfl, ?_⟩
    rcases waterR_form b x with ⟨-, h1⟩ | ⟨h1, -⟩
    · rcases h1 with h1 | h1 | h1
      · exact .inl h1
      · exact .inr (.inl h1)
      · exact .inr (.inr (.inr h1))
    · exact absurd h1 h
end Go.Proofs.YtlofopnjjeeehaaDoor.Bn
namespace Go.Proofs.YtlofopnjjeeehaaDoor.Bn
theorem testR_ok {b : Bnch} {x : Ctch} {m : Nat} {r : Nat → Spn} (h : (b.testR x m r).2 = 0) : 1 ≤ (b.testR x m r).1.lo ∧ (b.testR x m r).1.lo ≤ (b.testR x m r).1.hi ∧ (b.testR x m r).1.hi ≤ 50000010000000 ∧ m ≤ 16 ∧ ∀ i, i < m → 0 ≤ (r i).lo ∧ (r i).lo ≤ (r i).hi ∧ (r i).hi ≤ 1073741824 := by
  rcases testR_form b x m r with ⟨-, h1⟩ | ⟨-, h1, h2, h3, h4⟩
  · omega
  · rw [h2]
    have h5 := water_le h1
    rcases waterR_form b x with ⟨-, h6⟩ | ⟨-, h6⟩
    · omega
    · exact ⟨h6.1, h5, h6.2.2.2, h3, h4⟩
def cnt (e : Int) (m : Nat) : Nat := if e = 0 then m else 0
theorem cnt_zero (m : Nat) : cnt 0 m = m := rfl
theorem cnt_ne {e : Int} (h : e ≠ 0) (m : Nat) : cnt e m = 0 := if_neg h
end Go.Proofs.YtlofopnjjeeehaaDoor.Bn
namespace Go.Proofs.YtlofopnjjeeehaaDoor.Bn
def endL (v s : Spn) : Frac := ⟨10000 * (s.lo - v.hi), v.hi⟩
def endH (v s : Spn) : Frac := ⟨10000 * (s.hi - v.lo), v.lo⟩
/-- the least and the greatest number that it can show and pass -/
def passA (v : Spn) (most : Int) : Int := rnd 1 (v.lo * (10000 - most)) 10000
def passZ (v : Spn) (most : Int) : Int := rnd 0 (v.hi * (10000 + most)) 10000
def passR (v s : Spn) (most : Int) : Int :=
  if (endL v s).lt ⟨-most, 1⟩ = false ∧ Frac.lt ⟨most, 1⟩ (endH v s) = false then 2
  else if min (passZ v most) s.hi < max (passA v most) s.lo then 0 else 1
theorem passR_yes {v s : Spn} {most : Int} (h1 : (endL v s).lt ⟨-most, 1⟩ = false) (h2 : Frac.lt ⟨most, 1⟩ (endH v s) = false) : passR v s most = 2 := if_pos ⟨h1, h2⟩
theorem passR_no {v s : Spn} {most : Int} (h1 : (endL v s).lt ⟨-most, 1⟩ = true ∨ Frac.lt ⟨most, 1⟩ (endH v s) = true) (h2 : min (passZ v most) s.hi < max (passA v most) s.lo) : passR v s most = 0 := by
  unfold passR
  rw [if_neg (by rcases h1 with h1 | h1 <;> simp [h1]), if_pos h2]
theorem passR_some {v s : Spn} {most : Int} (h1 : (endL v s).lt ⟨-most, 1⟩ = true ∨ Frac.lt ⟨most, 1⟩ (endH v s) = true) (h2 : ¬ min (passZ v most) s.hi < max (passA v most) s.lo) : passR v s most = 1 := by
  unfold passR
  rw [if_neg (by rcases h1 with h1 | h1 <;> simp [h1]), if_neg h2]
end Go.Proofs.YtlofopnjjeeehaaDoor.Bn
namespace Go.Proofs.YtlofopnjjeeehaaDoor.Bn
def underV (v : Spn) (n : Int) : Int := if n < 0 then v.lo else v.hi
def gapLo (r : Nat → Spn) (i k : Int) : Int := (r i.toNat).lo - (r k.toNat).hi
def gapHi (r : Nat → Spn) (i k : Int) : Int := (r i.toNat).hi - (r k.toNat).lo
def gapOf (v : Spn) (low high : Int) : Spn := ⟨rnd 0 (10000 * low) (underV v low), rnd 1 (10000 * high) (underV v (-high))⟩
def gapIn (m : Nat) (i k : Int) : Bool := withinB i 0 ((m : Int) - 1) && (withinB k 0 ((m : Int) - 1) && decide (i ≠ k))
def gapE (e9 : Int) (m : Nat) (i k : Int) : Int := if e9 = 0 then (if gapIn m i k then 0 else 2) else e9
def gapS (v : Spn) (e9 : Int) (m : Nat) (r : Nat → Spn) (i k : Int) : Spn := if gapE e9 m i k = 0 then gapOf v (gapLo r i k) (gapHi r i k) else ⟨0, 0⟩
theorem gapE_yes {m : Nat} {i k : Int} (h : gapIn m i k = true) : gapE 0 m i k = 0 := by unfold gapE; rw [if_pos rfl, if_pos h]
theorem gapE_no {m : Nat} {i k : Int} (h : gapIn m i k = false) : gapE 0 m i k = 2 := by unfold gapE; rw [if_pos rfl, h]; rfl
theorem gapE_ne {e9 : Int} {m : Nat} {i k : Int} (h : e9 ≠ 0) : gapE e9 m i k = e9 := if_neg h
theorem gapS_yes {v : Spn} {m : Nat} {r : Nat → Spn} {i k : Int} (h : gapIn m i k = true) : gapS v 0 m r i k = gapOf v (gapLo r i k) (gapHi r i k) := by unfold gapS; rw [if_pos (gapE_yes h)]
theorem gapS_no {v : Spn} {m : Nat} {r : Nat → Spn} {i k : Int} (h : gapIn m i k = false) : gapS v 0 m r i k = ⟨0, 0⟩ := by unfold gapS; rw [if_neg (by rw [gapE_no h]; omega)]
theorem gapS_ne {v : Spn} {e9 : Int} {m : Nat} {r : Nat → Spn} {i k : Int} (h : e9 ≠ 0) : gapS v e9 m r i k = ⟨0, 0⟩ := by unfold gapS; rw [if_neg (by rw [gapE_ne h]; exact h)]
theorem gapIn_all {m : Nat} {i k : Int} (h : gapIn m i k = true) : 0 ≤ i ∧ i < m ∧ 0 ≤ k ∧ k < m ∧ i ≠ k := by
  simp only [gapIn, withinB, Bool.and_eq_true, decide_eq_true_eq] at h
  omega
/-- as the document says it -/
def underH (v : Spn) (n : Int) : Int := if n < 0 then v.hi else v.lo
theorem rnd_zero (s u : Int) : rnd s 0 u = 0 := by unfold rnd; split <;> simp
theorem gapOf_doc (v : Spn) (low high : Int) : gapOf v low high = ⟨rnd 0 (10000 * low) (underV v low), rnd 1 (10000 * high) (underH v high)⟩ := by
  unfold gapOf
  congr 1
  by_cases h : high = 0
  · subst h; rw [Int.mul_zero, rnd_zero, rnd_zero]
  · congr 1
    unfold underV underH
    by_cases h2 : high < 0
    · rw [if_neg (by omega), if_pos h2]
    · rw [if_pos (by omega), if_neg h2]
/-- whether it can have shown n and pass -/
def okN (v : Spn) (most n : Int) : Bool := !(Frac.lt ⟨10000 * (n - v.lo), v.lo⟩ ⟨-most, 1⟩) && !(Frac.lt ⟨most, 1⟩ ⟨10000 * (n - v.hi), v.hi⟩)
def passD (v s : Spn) (most : Int) : Int := if (endL v s).lt ⟨-most, 1⟩ = false ∧ Frac.lt ⟨most, 1⟩ (endH v s) = false then 2 else if (endH v s).lt ⟨-most, 1⟩ = true ∨ Frac.lt ⟨most, 1⟩ (endL v s) = true then 0 else if anyB (s.hi - s.lo + 1).toNat (fun i => okN v most (s.lo + i)) then 1 else 0
theorem passD_two {v s : Spn} {most : Int} (h1 : (endL v s).lt ⟨-most, 1⟩ = false) (h2 : Frac.lt ⟨most, 1⟩ (endH v s) = false) : passD v s most = 2 := if_pos ⟨h1, h2⟩
theorem passD_zero {v s : Spn} {most : Int} (h1 : (endL v s).lt ⟨-most, 1⟩ = true ∨ Frac.lt ⟨most, 1⟩ (endH v s) = true) (h2 : (endH v s).lt ⟨-most, 1⟩ = true ∨ Frac.lt ⟨most, 1⟩ (endL v s) = true) : passD v s most = 0 := by
  unfold passD
  rw [if_neg (by rcases h1 with h1 | h1 <;> simp [h1]), if_pos h2]
theorem passD_loop {v s : Spn} {most : Int} (h1 : (endL v s).lt ⟨-most, 1⟩ = true ∨ Frac.lt ⟨most, 1⟩ (endH v s) = true) (h2 : (endH v s).lt ⟨-most, 1⟩ = false) (h3 : Frac.lt ⟨most, 1⟩ (endL v s) = false) :
    passD v s most = if anyB (s.hi - s.lo + 1).toNat (fun i => okN v most (s.lo + i)) then 1 else 0 := by
  unfold passD
  rw [if_neg (by rcases h1 with h1 | h1 <;> simp [h1]), if_neg (by simp [h2, h3])]
end Go.Proofs.YtlofopnjjeeehaaDoor.Bn
namespace Go.Proofs.YtlofopnjjeeehaaDoor.Bn
theorem passA_le {v : Spn} {most n : Int} : passA v most ≤ n ↔ v.lo * 10000 - v.lo * most ≤ n * 10000 := by
  unfold passA rnd
  rw [if_neg (by decide), Int.mul_sub]
  generalize v.lo * 10000 - v.lo * most = t
  omega
theorem le_passZ {v : Spn} {most n : Int} : n ≤ passZ v most ↔ n * 10000 ≤ v.hi * 10000 + v.hi * most := by
  unfold passZ rnd
  rw [if_pos rfl, Int.mul_add]
  generalize v.hi * 10000 + v.hi * most = t
  omega
theorem okN_iff {v : Spn} {most n : Int} : okN v most n = true ↔ passA v most ≤ n ∧ n ≤ passZ v most := by
  rw [passA_le, le_passZ]
  simp only [okN, Frac.lt, Bool.and_eq_true, Bool.not_eq_true', decide_eq_false_iff_not, Int.mul_one]
  rw [Int.neg_mul, Int.mul_comm most v.lo, Int.mul_comm most v.hi]
  generalize v.lo * most = p
  generalize v.hi * most = q
  omega
theorem passD_eq (v s : Spn) (most : Int) : passD v s most = passR v s most := by
  unfold passD passR
  by_cases h1 : (endL v s).lt ⟨-most, 1⟩ = false ∧ Frac.lt ⟨most, 1⟩ (endH v s) = false
  · rw [if_pos h1, if_pos h1]
  · rw [if_neg h1, if_neg h1]
    by_cases h2 : (endH v s).lt ⟨-most, 1⟩ = true ∨ Frac.lt ⟨most, 1⟩ (endL v s) = true
    · rw [if_pos h2, if_pos]
      rcases h2 with h2 | h2
      · have : ¬ passA v most ≤ s.hi := fun h => by
          rw [passA_le] at h
          simp only [endH, Frac.lt, decide_eq_true_eq, Int.mul_one] at h2
          rw [Int.neg_mul, Int.mul_comm most v.lo] at h2
          generalize v.lo * most = p at *
          omega
        omega
      · have : ¬ s.lo ≤ passZ v most := fun h => by
          rw [le_passZ] at h
          simp only [endL, Frac.lt, decide_eq_true_eq, Int.mul_one] at h2
          rw [Int.mul_comm most v.hi] at h2
          generalize v.hi * most = p at *
          omega
        omega
    · rw [if_neg h2]
      by_cases h3 : anyB (s.hi - s.lo + 1).toNat (fun i => okN v most (s.lo + i)) = true
      · rw [if_pos h3, if_neg]
        obtain ⟨i, hi, h4⟩ := anyB_iff.1 h3
        have := okN_iff.1 h4
        omega
      · rw [if_neg h3, if_pos]
        rcases Classical.em (min (passZ v most) s.hi < max (passA v most) s.lo) with h | h
        · exact h
        · refine absurd (anyB_iff.2 ⟨(max (passA v most) s.lo - s.lo).toNat, by omega, ?_⟩) h3
          exact okN_iff.2 (by omega)
end Go.Proofs.YtlofopnjjeeehaaDoor.Bn
