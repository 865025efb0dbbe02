/- Structs of this seat as Lean data: marks, spans, benches, catches; what lies in memory. -/
import Derived.WalkKit
import Derived.Deep.Draws
namespace Go.Proofs.Ythoefcpeagclbaa
open Go.RowKit

structure Mark where
  at_ : Int
  value : Int
abbrev Mark.val (t : Mark) : Value := .agg #[.int .i64 t.at_, .int .i64 t.value]
def MarksAt (w : World) (oa : Option Addr) (n : Nat) (t : Nat → Mark) : Prop :=
  ∀ i, i < n → ∃ b off, oa = some ⟨b, off, none⟩ ∧ b < w.heap.size ∧ w.cell? ⟨b, off + i * 2, none⟩ = some (.int .i64 (t i).at_) ∧ w.cell? ⟨b, off + i * 2 + 1, none⟩ = some (.int .i64 (t i).value)
theorem MarksAt.mono {w w' : World} {oa : Option Addr} {n : Nat} {t : Nat → Mark} (h : MarksAt w oa n t) (hb : Below w.heap.size w w') : MarksAt w' oa n t := fun i hi => by
  obtain ⟨b, off, ha, hlt, h0, h1⟩ := h i hi
  exact ⟨b, off, ha, Nat.lt_of_lt_of_le hlt hb.size, (hb.cell (p := ⟨b, off + i * 2, none⟩) hlt).trans h0, (hb.cell (p := ⟨b, off + i * 2 + 1, none⟩) hlt).trans h1⟩
structure Spn where
  lo : Int
  hi : Int
  deriving DecidableEq
abbrev Spn.val (t : Spn) : Value := .agg #[.int .i64 t.lo, .int .i64 t.hi]
def SpnsAt (w : World) (oa : Option Addr) (n : Nat) (t : Nat → Spn) : Prop :=
  ∀ i, i < n → ∃ b off, oa = some ⟨b, off, none⟩ ∧ b < w.heap.size ∧ w.cell? ⟨b, off + i * 2, none⟩ = some (.int .i64 (t i).lo) ∧ w.cell? ⟨b, off + i * 2 + 1, none⟩ = some (.int .i64 (t i).hi)
theorem SpnsAt.mono {w w' : World} {oa : Option Addr} {n : Nat} {t : Nat → Spn} (h : SpnsAt w oa n t) (hb : Below w.heap.size w w') : SpnsAt w' oa n t := fun i hi => by
  obtain ⟨b, off, ha, hlt, h0, h1⟩ := h i hi
  exact ⟨b, off, ha, Nat.lt_of_lt_of_le hlt hb.size, (hb.cell (p := ⟨b, off + i * 2, none⟩) hlt).trans h0, (hb.cell (p := ⟨b, off + i * 2 + 1, none⟩) hlt).trans h1⟩
structure Bnch where
  weighs : Bool
  off : Int
  buoy : Spn
  air : Spn
  n : Nat
  t : Nat → Mark
abbrev Bnch.val (b : Bnch) (oa : Option Addr) (cap : Nat) : Value := .agg #[.bool b.weighs, .slice oa b.n cap, .int .i64 b.off, .int .i64 b.buoy.lo, .int .i64 b.buoy.hi, .int .i64 b.air.lo, .int .i64 b.air.hi]
structure Ctch where
  beg : Spn
  fin : Spn
  warm : Spn
abbrev Ctch.val (x : Ctch) : Value := .agg #[.int .i64 x.beg.lo, .int .i64 x.beg.hi, .int .i64 x.fin.lo, .int .i64 x.fin.hi, .int .i64 x.warm.lo, .int .i64 x.warm.hi]
/-- a fraction -/
structure Frac where
  top : Int
  under : Int
abbrev Frac.val (f : Frac) : Value := .agg #[.int .i64 f.top, .int .i64 f.under]
def anyB (n : Nat) (p : Nat → Bool) : Bool := (List.range n).any p
theorem anyB_iff {n : Nat} {p : Nat → Bool} : anyB n p = true ↔ ∃ i, i < n ∧ p i = true := by simp [anyB, List.any_eq_true]
def withinB (n low high : Int) : Bool := decide (low ≤ n ∧ n ≤ high)
def spanB (s : Spn) (low high : Int) : Bool := decide (low ≤ s.lo ∧ s.lo ≤ s.hi ∧ s.hi ≤ high)
theorem ret_bool {a b : Bool} (h : a = b) : Ending.returned (.bool a) = .returned (.bool b) := by rw [h]
theorem ret_int {k : IntKind} {a b : Int} (h : a = b) : Ending.returned (.int k a) = .returned (.int k b) := by rw [h]
theorem ret_two {a b c d : Int} (h : a = c) (h' : b = d) : Ending.returned (.agg #[.int .i64 a, .int .i64 b]) = .returned (.agg #[.int .i64 c, .int .i64 d]) := by rw [h, h']
/-- the first index from i on, of k ones, that does -/
def firstFrom (p : Nat → Bool) : Nat → Nat → Nat
  | 0, i => i
  | k + 1, i => if p i then i else firstFrom p k (i + 1)
theorem firstFrom_eq {p : Nat → Bool} : ∀ {k i m : Nat}, i ≤ m → m < i + k → (∀ j, i ≤ j → j < m → p j = false) → p m = true → firstFrom p k i = m
  | 0, i, m, h0, h1, _, _ => by omega
  | k + 1, i, m, h0, h1, h2, h3 => by
    unfold firstFrom
    by_cases h : i = m
    · subst h; rw [if_pos h3]
    · rw [if_neg (by rw [h2 i (Nat.le_refl _) (by omega)]; simp)]
      exact firstFrom_eq (by omega) (by omega) (fun j hj hm => h2 j (by omega) hm) h3
theorem firstFrom_spec {p : Nat → Bool} : ∀ {k i : Nat}, i ≤ firstFrom p k i ∧ firstFrom p k i ≤ i + k ∧ (∀ j, i ≤ j → j < firstFrom p k i → p j = false) ∧ (firstFrom p k i < i + k → p (firstFrom p k i) = true)
  | 0, i => ⟨Nat.le_refl _, Nat.le_refl _, fun j h h' => by simp [firstFrom] at h'; omega, fun h => by simp [firstFrom] at h⟩
  | k + 1, i => by
    unfold firstFrom
    by_cases h : p i = true
    · rw [if_pos h]
      exact ⟨Nat.le_refl _, by omega, fun j h h' => by omega, fun _ => h⟩
    · rw [if_neg h]
      obtain ⟨h0, h1, h2, h3⟩ := firstFrom_spec (p := p) (k := k) (i := i + 1)
      exact ⟨by omega, by omega, fun j hj hm => by
        by_cases hj2 : j = i
        · subst hj2; simpa using h
        · exact h2 j (by omega) hm, fun hm => h3 (by omega)⟩
/-- two cells of a box are written -/
theorem put2 {w : World} {b : Nat} {x0 x1 : Value} (c0 : w.cell? ⟨b, 0, none⟩ = some x0) (c1 : w.cell? ⟨b, 1, none⟩ = some x1) (v0 v1 : Value) :
    (w.setCell ⟨b, 0, none⟩ v0).cell? ⟨b, 0, none⟩ = some v0 ∧ ((w.setCell ⟨b, 0, none⟩ v0).setCell ⟨b, 1, none⟩ v1).cell? ⟨b, 1, none⟩ = some v1 :=
  ⟨World.cell?_setCell_same _ _ _ c0, World.cell?_setCell_same _ _ _ ((World.cell?_setCell_other _ _ _ _ (by simp)).trans c1)⟩
end Go.Proofs.Ythoefcpeagclbaa
