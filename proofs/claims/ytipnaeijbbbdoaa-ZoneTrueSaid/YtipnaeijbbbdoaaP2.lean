/- Zone, plain: the losses of a zone and of its parts bound one another. -/
import Derived.Test.YtipnaeijbbbdoaaW18
namespace Go.Proofs.Ytipnaeijbbbdoaa
open Go.RowKit
theorem sumL_min {w : Nat → Int} {R : Int} (hR : 0 ≤ R) : ∀ {l : List Nat}, (∀ c ∈ l, 0 ≤ w c) → min (sumL w l) R ≤ sumL (fun c => min (w c) R) l
  | [], _ => by simp only [sumL_nil]; omega
  | a :: l, h => by
    have h1 := sumL_min hR (w := w) (l := l) fun c hc => h c (by simp [hc])
    have h2 := h a (by simp)
    have h3 : 0 ≤ sumL w l := by
      have := sumL_le (f := fun _ => 0) (g := w) (l := l) fun c hc => h c (by simp [hc])
      have h0 : ∀ l : List Nat, sumL (fun _ => 0) l = 0 := fun l => by induction l with
        | nil => rfl
        | cons b l ih => rw [sumL_cons, ih]; rfl
      rw [h0] at this; exact this
    rw [sumL_cons, sumL_cons]
    omega
theorem sumL_sub (f g : Nat → Int) : ∀ l : List Nat, sumL (fun c => f c - g c) l = sumL f l - sumL g l
  | [] => rfl
  | a :: l => by rw [sumL_cons, sumL_cons, sumL_cons, sumL_sub f g l]; omega
theorem sumL_add (f g : Nat → Int) : ∀ l : List Nat, sumL (fun c => f c + g c) l = sumL f l + sumL g l
  | [] => rfl
  | a :: l => by rw [sumL_cons, sumL_cons, sumL_cons, sumL_add f g l]; omega
theorem sumL_erase {f : Nat → Int} {i : Nat} : ∀ {l : List Nat}, i ∈ l → sumL f l = f i + sumL f (l.erase i)
  | a :: l, h => by
    by_cases ha : a = i
    · subst ha; simp [sumL_cons]
    · have h1 : i ∈ l := by
        rcases List.mem_cons.1 h with h | h
        · exact absurd h.symm ha
        · exact h
      rw [List.erase_cons_tail (by simpa using ha), sumL_cons, sumL_cons, sumL_erase h1]; omega
/-- narrowing a row of spans from above: their ends, and those of all of them -/
structure Nar (ks : List Nat) (lo hi : Nat → Int) (a b : Int) : Prop where
  le : ∀ c ∈ ks, lo c ≤ hi c
  ab : a ≤ b
  l : sumL lo ks ≤ a
  h : b ≤ sumL hi ks
def narLo (ks : List Nat) (lo hi : Nat → Int) (a : Int) (c : Nat) : Int := max (lo c) (a - (sumL hi ks - hi c))
def narHi (ks : List Nat) (lo hi : Nat → Int) (b : Int) (c : Nat) : Int := min (hi c) (b - (sumL lo ks - lo c))
/-- sums of the least ends without one -/
theorem Nar.lo_le {ks : List Nat} {lo hi : Nat → Int} {a b : Int} (h : Nar ks lo hi a b) : ∀ {l : List Nat}, (∀ c ∈ l, c ∈ ks) → sumL (narLo ks lo hi a) l ≤ max (sumL lo l) (sumL hi l - (sumL hi ks - a)) := by
  intro l hl
  have h1 := sumL_min (w := fun c => hi c - lo c) (R := sumL hi ks - a) (by have := h.h; have := h.ab; omega) (l := l) fun c hc => by have := h.le c (hl c hc); omega
  have h2 : sumL (narLo ks lo hi a) l = sumL hi l - sumL (fun c => min (hi c - lo c) (sumL hi ks - a)) l := by
    rw [← sumL_sub]
    exact sumL_congr fun c _ => by unfold narLo; omega
  rw [sumL_sub] at h1
  omega
theorem Nar.hi_ge {ks : List Nat} {lo hi : Nat → Int} {a b : Int} (h : Nar ks lo hi a b) : ∀ {l : List Nat}, (∀ c ∈ l, c ∈ ks) → min (sumL hi l) (sumL lo l + (b - sumL lo ks)) ≤ sumL (narHi ks lo hi b) l := by
  intro l hl
  have h1 := sumL_min (w := fun c => hi c - lo c) (R := b - sumL lo ks) (by have := h.l; have := h.ab; omega) (l := l) fun c hc => by have := h.le c (hl c hc); omega
  have h2 : sumL (narHi ks lo hi b) l = sumL lo l + sumL (fun c => min (hi c - lo c) (b - sumL lo ks)) l := by
    rw [← sumL_add]
    exact sumL_congr fun c _ => by unfold narHi; omega
  rw [sumL_sub] at h1
  omega
theorem Nar.D {ks : List Nat} {lo hi : Nat → Int} {a b : Int} (h : Nar ks lo hi a b) : sumL (narLo ks lo hi a) ks ≤ a ∧ b ≤ sumL (narHi ks lo hi b) ks := by
  have h1 := h.lo_le (l := ks) fun c hc => hc
  have h2 := h.hi_ge (l := ks) fun c hc => hc
  have := h.l; have := h.h; have := h.ab
  omega
theorem Nar.U {ks : List Nat} {lo hi : Nat → Int} {a b : Int} (h : Nar ks lo hi a b) {i : Nat} (hi' : i ∈ ks) :
    a - (sumL (narHi ks lo hi b) ks - narHi ks lo hi b i) ≤ narLo ks lo hi a i ∧ narHi ks lo hi b i ≤ b - (sumL (narLo ks lo hi a) ks - narLo ks lo hi a i) := by
  have hm : ∀ c ∈ ks.erase i, c ∈ ks := fun c hc => List.mem_of_mem_erase hc
  have h1 := h.lo_le (l := ks.erase i) hm
  have h2 := h.hi_ge (l := ks.erase i) hm
  have e1 := sumL_erase (f := lo) hi'
  have e2 := sumL_erase (f := hi) hi'
  have e3 := sumL_erase (f := narLo ks lo hi a) hi'
  have e4 := sumL_erase (f := narHi ks lo hi b) hi'
  have l1 : narLo ks lo hi a i = max (lo i) (a - (sumL hi ks - hi i)) := rfl
  have l2 : narHi ks lo hi b i = min (hi i) (b - (sumL lo ks - lo i)) := rfl
  have := h.l; have := h.h; have := h.ab; have := h.le i hi'
  omega
/-- the losses of a zone with parts, from above -/
theorem dn_nar {z : Nat → Zon} {n : Nat} (hz : Tree z n) (hall : AllR z n) {q : Nat} (hq : q < n) (hne : kidsTo z q n ≠ []) :
    Nar (kidsTo z q n) (fun c => (S z n c).lo) (fun c => (S z n c).hi) (dnF z n q).lo (dnF z n q).hi := by
  obtain ⟨h2, h3, h4, h5, h6⟩ := S_spec hz hq (hall q hq)
  have h7 := h6 hne
  have h8 := dnF_in hz hall q hq
  have e1 := congrArg Spn.lo h7
  have e2 := congrArg Spn.hi h7
  simp only [cutS] at e1 e2
  refine ⟨fun c hc => (S_in hz (kid_gt hz hc).2.1 (h3 c hc)).2.1, h8.2.1, ?_, ?_⟩
  · omega
  · omega
theorem dn_lo {z : Nat → Zon} {n : Nat} (hz : Tree z n) {q c : Nat} (hc : c ∈ kidsTo z q n) :
    (dnF z n c).lo = narLo (kidsTo z q n) (fun c => (S z n c).lo) (fun c => (S z n c).hi) (dnF z n q).lo c ∧ (dnF z n c).hi = narHi (kidsTo z q n) (fun c => (S z n c).lo) (fun c => (S z n c).hi) (dnF z n q).hi c := by
  obtain ⟨h1, h2, h3⟩ := kid_gt hz hc
  rw [dnF_kid hz h2 h3]
  exact ⟨rfl, rfl⟩
/-- the parts of a zone together are no less narrow than it -/
theorem dn_D {z : Nat → Zon} {n : Nat} (hz : Tree z n) (hall : AllR z n) {q : Nat} (hq : q < n) (hne : kidsTo z q n ≠ []) :
    sumL (fun c => (dnF z n c).lo) (kidsTo z q n) ≤ (dnF z n q).lo ∧ (dnF z n q).hi ≤ sumL (fun c => (dnF z n c).hi) (kidsTo z q n) := by
  have h := (dn_nar hz hall hq hne).D
  rw [sumL_congr (fun c hc => (dn_lo hz hc).1), sumL_congr (f := fun c => (dnF z n c).hi) (fun c hc => (dn_lo hz hc).2)]
  exact h
/-- a part is within the zone less all others -/
theorem dn_U {z : Nat → Zon} {n : Nat} (hz : Tree z n) (hall : AllR z n) {q c : Nat} (hq : q < n) (hc : c ∈ kidsTo z q n) :
    (dnF z n q).lo - (sumL (fun c => (dnF z n c).hi) (kidsTo z q n) - (dnF z n c).hi) ≤ (dnF z n c).lo ∧ (dnF z n c).hi ≤ (dnF z n q).hi - (sumL (fun c => (dnF z n c).lo) (kidsTo z q n) - (dnF z n c).lo) := by
  have hne : kidsTo z q n ≠ [] := by intro h; rw [h] at hc; simp at hc
  have h := (dn_nar hz hall hq hne).U hc
  rw [sumL_congr (fun c hc => (dn_lo hz hc).2), sumL_congr (f := fun c => (dnF z n c).lo) (fun c hc => (dn_lo hz hc).1), (dn_lo hz hc).1, (dn_lo hz hc).2]
  exact h
/-- the bounds of all losses -/
theorem dn_bd {z : Nat → Zon} {n : Nat} (hz : Tree z n) (hok : ∀ i, i < n → (z i).ok) (hall : AllR z n) {i : Nat} (hi : i < n) :
    0 ≤ (dnF z n i).lo ∧ (dnF z n i).lo ≤ (dnF z n i).hi ∧ (dnF z n i).hi ≤ 1073741824 ∧ (z i).own.lo ≤ (dnF z n i).lo ∧ (dnF z n i).hi ≤ (z i).own.hi := by
  have h1 := dnF_in hz hall i hi
  have h2 := S_in hz hi (hall i hi)
  have h3 := Zon.own_bd (hok i hi)
  omega
theorem allR_own {z : Nat → Zon} {n : Nat} (hz : Tree z n) (hall : AllR z n) {i : Nat} (hi : i < n) : (z i).own.lo ≤ (z i).own.hi := by
  have := S_in hz hi (hall i hi); omega
/-- the own span is what inflow, meters and lawful use leave -/
theorem own_sums {z : Zon} (h : z.ok) :
    (z.i.lo - z.l.hi - z.own.lo) * (1000 + z.e.lo) ≤ 1000 * z.m.hi ∧ (0 < z.own.lo → 1000 * z.m.hi < (z.i.lo - z.l.hi - z.own.lo + 1) * (1000 + z.e.lo)) ∧
    1000 * z.m.lo ≤ (z.i.hi - z.l.lo - z.own.hi) * (1000 + z.e.hi) ∧ (z.i.hi - z.l.lo - z.own.hi - 1) * (1000 + z.e.hi) < 1000 * z.m.lo := by
  obtain ⟨h1, h2, h3, h4⟩ := h
  have hd : 0 < 1000 + z.e.lo := by omega
  have hu : 0 < 1000 + z.e.hi := by omega
  have d1 := Int.ediv_mul_le (1000 * z.m.hi) (b := 1000 + z.e.lo) (by omega)
  have d2 := Int.lt_ediv_add_one_mul_self (1000 * z.m.hi) (b := 1000 + z.e.lo) hd
  have u1 := Int.ediv_mul_le (1000 * z.m.lo + (1000 + z.e.hi) - 1) (b := 1000 + z.e.hi) (by omega)
  have u2 := Int.lt_ediv_add_one_mul_self (1000 * z.m.lo + (1000 + z.e.hi) - 1) (b := 1000 + z.e.hi) hu
  have eD : thrD z.m.hi z.e.lo = 1000 * z.m.hi / (1000 + z.e.lo) := rfl
  have eU : thrU z.m.lo z.e.hi = (1000 * z.m.lo + (1000 + z.e.hi) - 1) / (1000 + z.e.hi) := rfl
  rw [← eD] at d1 d2
  rw [← eU] at u1 u2
  have o1 : z.own.lo = max 0 (z.i.lo - thrD z.m.hi z.e.lo - z.l.hi) := rfl
  have o2 : z.own.hi = z.i.hi - thrU z.m.lo z.e.hi - z.l.lo := rfl
  generalize thrD z.m.hi z.e.lo = D at *
  generalize thrU z.m.lo z.e.hi = U at *
  have e2 : z.i.hi - z.l.lo - z.own.hi = U := by omega
  refine ⟨?_, fun h0 => ?_, ?_, ?_⟩
  · have : z.i.lo - z.l.hi - z.own.lo ≤ D := by omega
    exact Int.le_trans (Int.mul_le_mul_of_nonneg_right this (by omega)) d1
  · have : z.i.lo - z.l.hi - z.own.lo = D := by omega
    rw [this]; exact d2
  · rw [e2]
    rw [Int.add_mul] at u2; omega
  · rw [e2, Int.sub_mul]; omega
end Go.Proofs.Ytipnaeijbbbdoaa
