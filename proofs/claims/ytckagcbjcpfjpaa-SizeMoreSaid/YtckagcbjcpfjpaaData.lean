/- Structs of this seat as Lean data, and slices of them by cells. -/
import Derived.WalkKit
import Derived.Deep.Draws
namespace Go.Proofs.Ytckagcbjcpfjpaa
open Go.RowKit

structure Tap where
  lo : Int
  hi : Int
  need : Int
abbrev Tap.val (t : Tap) : Value := .agg #[.int .i64 t.lo, .int .i64 t.hi, .int .i64 t.need]
def TapsAt (w : World) (oa : Option Addr) (n : Nat) (t : Nat → Tap) : Prop :=
  ∀ i, i < n → ∃ b off, oa = some ⟨b, off, none⟩ ∧ b < w.heap.size ∧ w.cell? ⟨b, off + i * 3, none⟩ = some (.int .i64 (t i).lo) ∧ w.cell? ⟨b, off + i * 3 + 1, none⟩ = some (.int .i64 (t i).hi) ∧ w.cell? ⟨b, off + i * 3 + 2, none⟩ = some (.int .i64 (t i).need)
theorem TapsAt.mono {w w' : World} {oa : Option Addr} {n : Nat} {t : Nat → Tap} (h : TapsAt w oa n t) (hb : Below w.heap.size w w') : TapsAt w' oa n t := fun i hi => by
  obtain ⟨b, off, ha, hlt, h0, h1, h2⟩ := h i hi
  exact ⟨b, off, ha, Nat.lt_of_lt_of_le hlt hb.size, (hb.cell (p := ⟨b, off + i * 3, none⟩) hlt).trans h0, (hb.cell (p := ⟨b, off + i * 3 + 1, none⟩) hlt).trans h1, (hb.cell (p := ⟨b, off + i * 3 + 2, none⟩) hlt).trans h2⟩
structure Rule where
  taps : Int
  most : Int
abbrev Rule.val (t : Rule) : Value := .agg #[.int .i64 t.taps, .int .i64 t.most]
def RulesAt (w : World) (oa : Option Addr) (n : Nat) (t : Nat → Rule) : Prop :=
  ∀ i, i < n → ∃ b off, oa = some ⟨b, off, none⟩ ∧ b < w.heap.size ∧ w.cell? ⟨b, off + i * 2, none⟩ = some (.int .i64 (t i).taps) ∧ w.cell? ⟨b, off + i * 2 + 1, none⟩ = some (.int .i64 (t i).most)
theorem RulesAt.mono {w w' : World} {oa : Option Addr} {n : Nat} {t : Nat → Rule} (h : RulesAt w oa n t) (hb : Below w.heap.size w w') : RulesAt w' oa n t := fun i hi => by
  obtain ⟨b, off, ha, hlt, h0, h1⟩ := h i hi
  exact ⟨b, off, ha, Nat.lt_of_lt_of_le hlt hb.size, (hb.cell (p := ⟨b, off + i * 2, none⟩) hlt).trans h0, (hb.cell (p := ⟨b, off + i * 2 + 1, none⟩) hlt).trans h1⟩
structure Meter where
  start : Int
  full : Int
  loss : Int
  price : Int
abbrev Meter.val (t : Meter) : Value := .agg #[.int .i64 t.start, .int .i64 t.full, .int .i64 t.loss, .int .i64 t.price]
def MetersAt (w : World) (oa : Option Addr) (n : Nat) (t : Nat → Meter) : Prop :=
  ∀ i, i < n → ∃ b off, oa = some ⟨b, off, none⟩ ∧ b < w.heap.size ∧ w.cell? ⟨b, off + i * 4, none⟩ = some (.int .i64 (t i).start) ∧ w.cell? ⟨b, off + i * 4 + 1, none⟩ = some (.int .i64 (t i).full) ∧ w.cell? ⟨b, off + i * 4 + 2, none⟩ = some (.int .i64 (t i).loss) ∧ w.cell? ⟨b, off + i * 4 + 3, none⟩ = some (.int .i64 (t i).price)
theorem MetersAt.mono {w w' : World} {oa : Option Addr} {n : Nat} {t : Nat → Meter} (h : MetersAt w oa n t) (hb : Below w.heap.size w w') : MetersAt w' oa n t := fun i hi => by
  obtain ⟨b, off, ha, hlt, h0, h1, h2, h3⟩ := h i hi
  exact ⟨b, off, ha, Nat.lt_of_lt_of_le hlt hb.size, (hb.cell (p := ⟨b, off + i * 4, none⟩) hlt).trans h0, (hb.cell (p := ⟨b, off + i * 4 + 1, none⟩) hlt).trans h1, (hb.cell (p := ⟨b, off + i * 4 + 2, none⟩) hlt).trans h2, (hb.cell (p := ⟨b, off + i * 4 + 3, none⟩) hlt).trans h3⟩
def anyB (n : Nat) (p : Nat → Bool) : Bool := (List.range n).any p
theorem anyB_iff {n : Nat} {p : Nat → Bool} : anyB n p = true ↔ ∃ i, i < n ∧ p i = true := by simp [anyB, List.any_eq_true]
theorem below_drewN {B : Nat} {a w : World} (h : Below B a w) (n : Nat) : Below B a (w.drewN n) := ⟨h.os, h.tape, h.output, h.size, h.block⟩
def withinB (n low high : Int) : Bool := decide (low ≤ n ∧ n ≤ high)
theorem ret_bool {a b : Bool} (h : a = b) : Ending.returned (.bool a) = .returned (.bool b) := by rw [h]
theorem ret_int {k : IntKind} {a b : Int} (h : a = b) : Ending.returned (.int k a) = .returned (.int k b) := by rw [h]
/-- what IndexFunc comes to -/
def IdxPost (B : Nat) (w : World) (n : Nat) (p : Nat → Bool) (e : Ending) (w' : World) : Prop := ∃ r : Int, e = .returned (.int .i64 r) ∧ (0 ≤ r ↔ anyB n p = true) ∧ Below B w w'
end Go.Proofs.Ytckagcbjcpfjpaa
