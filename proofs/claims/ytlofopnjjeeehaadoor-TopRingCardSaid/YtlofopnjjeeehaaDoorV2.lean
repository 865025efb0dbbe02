/- Travel: the round, its trips, and the table that boundsOf makes of a suspicion and a set of trips, in plain Lean. -/
import Derived.Test.YtlofopnjjeeehaaDoorV1
namespace Go.Proofs.YtlofopnjjeeehaaDoor
open Go.RowKit
theorem tz64_core (x k idx : Nat) (w : World) (hx0 : ((x : Int) == 0) = false)
    (key : IntKind.u64.wrap (bits BinOp.and IntKind.u64 (x : Int) (IntKind.u64.wrap (-(x : Int))) * 285870213051353865) / 288230376151711744 = (idx : Int))
    (hi : idx < 64) (hk : k < 64) (hcell : w.cell? ⟨1, idx, none⟩ = some (.int .u8 k)) :
    Calls Tryd.prog 42 #[.int .u64 x] w fun e w' => e = .returned (.int .i64 k) ∧ w' = w := by
  go_enter Tryd.func42, Tryd.ntmps42
  go_wp2_with (simp only [key])
  go_ret
  exact ⟨rfl, rfl⟩
/-- math/bits.TrailingZeros, of a set that is not empty -/
theorem tz64_any (x : Nat) (hx0 : x ≠ 0) (hx : x < 18446744073709551616) (w : World) (hT : TabAt 1 Lib.deBruijn64tab w) :
    Calls Tryd.prog 42 #[.int .u64 x] w fun e w' => e = .returned (.int .i64 (Lib.ctz 64 x)) ∧ w' = w := by
  obtain ⟨hlow, hk⟩ := Lib.lowest_bit 64 x hx0 hx
  obtain ⟨hi, htab⟩ := Lib.deBruijn64_at _ hk
  have hcell := hT _ hi
  rw [htab] at hcell
  exact tz64_core x _ _ w (by simp; omega) (tz64_key x _ hx hx0 hlow) hi hk hcell
theorem tz_any (x : Nat) (hx0 : x ≠ 0) (hx : x < 18446744073709551616) (w : World) (hT : TabAt 1 Lib.deBruijn64tab w) :
    Calls Tryd.prog 32 #[.int .u64 x] w fun e w' => e = .returned (.int .i64 (Lib.ctz 64 x)) ∧ w' = w := by
  have HT := Lib.hid hT
  clear hT
  go_enter Tryd.func32, Tryd.ntmps32
  go_wp2_with fail
  refine (tz64_any x hx0 hx _ HT.out).mono ?_
  rintro e w' ⟨rfl, rfl⟩
  go_wp2
  go_ret
  exact ⟨rfl, rfl⟩
theorem ofInt_i64 (a : Nat) (ha : a < 9223372036854775808) : (BitVec.ofInt 64 (a : Int)).toNat = a := by
  rw [BitVec.ofInt_natCast, BitVec.toNat_ofNat]; exact Nat.mod_eq_of_lt (by omega)
theorem i64_and_nat (a b : Nat) (ha : a < 9223372036854775808) (hb : b < 9223372036854775808) : bits .and .i64 (a : Int) (b : Int) = ((a &&& b : Nat) : Int) := by
  have hx : a &&& b < 2 ^ 63 := Nat.and_lt_two_pow _ (by omega)
  show IntKind.i64.wrap ((BitVec.ofInt 64 (a : Int) &&& BitVec.ofInt 64 (b : Int)).toNat : Int) = _
  rw [BitVec.toNat_and, ofInt_i64 a ha, ofInt_i64 b hb, IntKind.wrap_i64]
  omega
theorem ctz_dvd {x : Nat} (h0 : x ≠ 0) (hx : x < 18446744073709551616) : ∃ m, x = 2 ^ Lib.ctz 64 x * (2 * m + 1) := by
  unfold Lib.ctz
  obtain ⟨m, h, _⟩ := Lib.ctzFrom_spec 64 x (Nat.pos_of_ne_zero h0) (by simpa using hx)
  exact ⟨m, by rw [if_neg h0]; exact h⟩
theorem ctz_lt {x n : Nat} (h0 : x ≠ 0) (hx : x < 18446744073709551616) (hn : x < 2 ^ n) : Lib.ctz 64 x < n := by
  obtain ⟨m, hm⟩ := ctz_dvd h0 hx
  have h1 : 2 ^ Lib.ctz 64 x ≤ x := by
    generalize Lib.ctz 64 x = c at hm ⊢
    rw [hm]
    exact Nat.le_mul_of_pos_right _ (by omega)
  exact (Nat.pow_lt_pow_iff_right (by omega)).1 (Nat.lt_of_le_of_lt h1 hn)
/-- the members of a set, from the least one on -/
def mem2 (x : Nat) : List Nat := if h : x = 0 then [] else Lib.ctz 64 x :: mem2 (x &&& (x - 1))
termination_by x
decreasing_by
  have : x &&& (x - 1) ≤ x - 1 := Nat.and_le_right
  omega
theorem mem2_zero : mem2 0 = [] := by unfold mem2; simp
theorem mem2_step {x : Nat} (h : x ≠ 0) : mem2 x = Lib.ctz 64 x :: mem2 (x &&& (x - 1)) := by
  conv => lhs; unfold mem2
  rw [dif_neg h]
/-- a trip: the bench, the meter, the error found -/
structure Trp where
  b : Int
  m : Int
  lo : Int
  hi : Int
abbrev Trp.val (t : Trp) : Value := .agg #[.int .i64 t.b, .int .i64 t.m, .int .i64 t.lo, .int .i64 t.hi]
/-- n trips lie at a place of the heap -/
def TrpsAt (w : World) (oa : Option Addr) (n : Nat) (t : Nat → Trp) : Prop :=
  ∀ i, i < n → ∃ b off, oa = some ⟨b, off, none⟩ ∧ b < w.heap.size ∧ w.cell? ⟨b, off + i * 4, none⟩ = some (.int .i64 (t i).b) ∧ w.cell? ⟨b, off + i * 4 + 1, none⟩ = some (.int .i64 (t i).m) ∧ w.cell? ⟨b, off + i * 4 + 1 + 1, none⟩ = some (.int .i64 (t i).lo) ∧ w.cell? ⟨b, off + i * 4 + 1 + 1 + 1, none⟩ = some (.int .i64 (t i).hi)
theorem TrpsAt.mono {w w' : World} {oa : Option Addr} {n : Nat} {t : Nat → Trp} (h : TrpsAt w oa n t) (hb : Below w.heap.size w w') : TrpsAt w' oa n t := fun i hi => by
  obtain ⟨b, off, ha, hlt, h0, h1, h2, h3⟩ := h i hi
  exact ⟨b, off, ha, Nat.lt_of_lt_of_le hlt hb.size, (hb.cell (p := ⟨b, off + i * 4, none⟩) hlt).trans h0, (hb.cell (p := ⟨b, off + i * 4 + 1, none⟩) hlt).trans h1, (hb.cell (p := ⟨b, off + i * 4 + 1 + 1, none⟩) hlt).trans h2, (hb.cell (p := ⟨b, off + i * 4 + 1 + 1 + 1, none⟩) hlt).trans h3⟩
/-- a round -/
structure Rnd where
  nb : Int
  nm : Int
  most : Int
  n : Nat
  t : Nat → Trp
abbrev Rnd.val (r : Rnd) (oa : Option Addr) (ca : Nat) : Value := .agg #[.int .i64 r.nb, .int .i64 r.nm, .int .i64 r.most, .slice oa r.n ca]
abbrev T13 := Nat → Nat → Int
def initT : T13 := fun a b => if a ≠ b then 1099511627776 else 0
/-- the first k numbers of row i, and all rows before it, are free -/
def initP (i k : Nat) : T13 := fun a b => if (a < i ∨ (a = i ∧ b < k)) ∧ a ≠ b then 1099511627776 else 0
def benchK (most off : Int) (b : Nat) (D : T13) : T13 := if (b : Int) = off then D else minT (minT D (1 + b) 0 most) 0 (1 + b) most
def benchT (most off : Int) : Nat → T13 → T13
  | 0, D => D
  | k + 1, D => benchK most off k (benchT most off k D)
def tripK (t : Trp) (D : T13) : T13 := minT (minT D (7 + t.m.toNat) (1 + t.b.toNat) t.hi) (1 + t.b.toNat) (7 + t.m.toNat) (-t.lo)
def tripT (t : Nat → Trp) : List Nat → T13 → T13
  | [], D => D
  | k :: l, D => tripT t l (tripK (t k) D)
def stepK (y i k : Nat) (D : T13) : T13 := if D i y < 1099511627776 ∧ D y k < 1099511627776 then minT D i k (IntKind.i64.wrap (D i y + D y k)) else D
def rowT (y i : Nat) : Nat → T13 → T13
  | 0, D => D
  | k + 1, D => stepK y i k (rowT y i k D)
def phaseT (y : Nat) : Nat → T13 → T13
  | 0, D => D
  | i + 1, D => rowT y i 13 (phaseT y i D)
def fwT : Nat → T13 → T13
  | 0, D => D
  | y + 1, D => phaseT y 13 (fwT y D)
def Rnd.startT (r : Rnd) (off : Int) (set : Nat) : T13 := tripT r.t (mem2 set) (benchT r.most off r.nb.toNat initT)
def Rnd.tab (r : Rnd) (off : Int) (set : Nat) : T13 := fwT 13 (r.startT off set)
def okT (D : T13) : Bool := (List.range 13).all fun i => !decide (D i i < 0)
end Go.Proofs.YtlofopnjjeeehaaDoor
