/- Structs of this seat as Lean data: marks, spans, benches, catches; what lies in memory. What the smallest functions of chapter 04 return: within, isSpan, compare, minus, and the document's in and span; no conditions. Rounding of fractions, on both sides; the error of a meter; no conditions but bounds. A table's value at a number: at, and what it calls; the ends of a table; the table is valid, the number within it. -/
import Derived.WalkKit
import Derived.Deep.Draws
import Derived.Test.YtlofopnjjeeehaaDoorRows
import Derived.WalkSpells
import Derived.WalkLawsBesides
import Derived.Lib.Hide
import Derived.BigQuiet
namespace Go.Proofs.YtlofopnjjeeehaaDoor.Bn
open Go.RowKit

structure Mark where
  at_ : Int
  value : Int
abbrev Mark.val (t : Mark) : Value := .agg #[.int .i64 t.at_, .int .i64 t.value]
def MarksAt (w : World) (oa : Option Addr) (n : Nat) (t : Nat → Mark) : Prop :=
  ∀ i, i < n → ∃ b off, oa = some ⟨b, off, none⟩ ∧ b < w.heap.size ∧ w.cell? ⟨b, off + i * 2, none⟩ = some (.int .i64 (t i).at_) ∧ w.cell? ⟨b, off + i * 2 + 1, none⟩ = some (.int .i64 (t i).value)
theorem MarksAt.mono {w w' : World} {oa : Option Addr} {n : Nat} {t : Nat → Mark} (h : MarksAt w oa n t) (hb : Below w.heap.size w w') : MarksAt w' oa n t := fun i hi => by
  obtain ⟨b, off, ha, hlt, h0, h1⟩ := h i hi
  exact ⟨b, off, ha, Nat.lt_of_lt_of_le hlt hb.size, (hb.cell (p := ⟨b, off + i * 2, none⟩) hlt).trans h0, (hb.cell (p := ⟨b, off + i * 2 + 1, none⟩) hlt).trans h1⟩
structure Spn where
  lo : Int
  hi : Int
  deriving DecidableEq
abbrev Spn.val (t : Spn) : Value := .agg #[.int .i64 t.lo, .int .i64 t.hi]
def SpnsAt (w : World) (oa : Option Addr) (n : Nat) (t : Nat → Spn) : Prop :=
  ∀ i, i < n → ∃ b off, oa = some ⟨b, off, none⟩ ∧ b < w.heap.size ∧ w.cell? ⟨b, off + i * 2, none⟩ = some (.int .i64 (t i).lo) ∧ w.cell? ⟨b, off + i * 2 + 1, none⟩ = some (.int .i64 (t i).hi)
theorem SpnsAt.mono {w w' : World} {oa : Option Addr} {n : Nat} {t : Nat → Spn} (h : SpnsAt w oa n t) (hb : Below w.heap.size w w') : SpnsAt w' oa n t := fun i hi => by
  obtain ⟨b, off, ha, hlt, h0, h1⟩ := h i hi
  exact ⟨b, off, ha, Nat.lt_of_lt_of_le hlt hb.size, (hb.cell (p := ⟨b, off + i * 2, none⟩) hlt).trans h0, (hb.cell (p := ⟨b, off + i * 2 + 1, none⟩) hlt).trans h1⟩
structure Bnch where
  weighs : Bool
  off : Int
  buoy : Spn
  air : Spn
  n : Nat
  t : Nat → Mark
abbrev Bnch.val (b : Bnch) (oa : Option Addr) (cap : Nat) : Value := .agg #[.bool b.weighs, .slice oa b.n cap, .int .i64 b.off, .int .i64 b.buoy.lo, .int .i64 b.buoy.hi, .int .i64 b.air.lo, .int .i64 b.air.hi]
structure Ctch where
  beg : Spn
  fin : Spn
  warm : Spn
abbrev Ctch.val (x : Ctch) : Value := .agg #[.int .i64 x.beg.lo, .int .i64 x.beg.hi, .int .i64 x.fin.lo, .int .i64 x.fin.hi, .int .i64 x.warm.lo, .int .i64 x.warm.hi]
/-- a fraction -/
structure Frac where
  top : Int
  under : Int
abbrev Frac.val (f : Frac) : Value := .agg #[.int .i64 f.top, .int .i64 f.under]
def anyB (n : Nat) (p : Nat → Bool) : Bool := (List.range n).any p
theorem anyB_iff {n : Nat} {p : Nat → Bool} : anyB n p = true ↔ ∃ i, i < n ∧ p i = true := by simp [anyB, List.any_eq_true]
def withinB (n low high : Int) : Bool := decide (low ≤ n ∧ n ≤ high)
def spanB (s : Spn) (low high : Int) : Bool := decide (low ≤ s.lo ∧ s.lo ≤ s.hi ∧ s.hi ≤ high)
theorem ret_bool {a b : Bool} (h : a = b) : Ending.returned (.bool a) = .returned (.bool b) := by rw [h]
theorem ret_int {k : IntKind} {a b : Int} (h : a = b) : Ending.returned (.int k a) = .returned (.int k b) := by rw [h]
theorem ret_two {a b c d : Int} (h : a = c) (h' : b = d) : Ending.returned (.agg #[.int .i64 a, .int .i64 b]) = .returned (.agg #[.int .i64 c, .int .i64 d]) := by rw [h, h']
/-- the first index from i on, of k ones, that does -/
def firstFrom (p : Nat → Bool) : Nat → Nat → Nat
  | 0, i => i
  | k + 1, i => if p i then i else firstFrom p k (i + 1)
theorem firstFrom_eq {p : Nat → Bool} : ∀ {k i m : Nat}, i ≤ m → m < i + k → (∀ j, i ≤ j → j < m → p j = false) → p m = true → firstFrom p k i = m
  | 0, i, m, h0, h1, _, _ => by omega
  | k + 1, i, m, h0, h1, h2, h3 => by
    unfold firstFrom
    by_cases h : i = m
    · subst h; rw [if_pos h3]
    · rw [if_neg (by rw [h2 i (Nat.le_refl _) (by omega)]; simp)]
      exact firstFrom_eq (by omega) (by omega) (fun j hj hm => h2 j (by omega) hm) h3
theorem firstFrom_spec {p : Nat → Bool} : ∀ {k i : Nat}, i ≤ firstFrom p k i ∧ firstFrom p k i ≤ i + k ∧ (∀ j, i ≤ j → j < firstFrom p k i → p j = false) ∧ (firstFrom p k i < i + k → p (firstFrom p k i) = true)
  | 0, i => ⟨Nat.le_refl _, Nat.le_refl _, fun j h h' => by simp [firstFrom] at h'; omega, fun h => by simp [firstFrom] at h⟩
  | k + 1, i => by
    unfold firstFrom
    by_cases h : p i = true
    · rw [if_pos h]
      exact ⟨Nat.le_refl _, by omega, fun j h h' => by omega, fun _ => h⟩
    · rw [if_neg h]
      obtain ⟨h0, h1, h2, h3⟩ := firstFrom_spec (p := p) (k := k) (i := i + 1)
      exact ⟨by omega, by omega, fun j hj hm => by
        by_cases hj2 : j = i
        · subst hj2; simpa using h
        · exact h2 j (by omega) hm, fun hm => h3 (by omega)⟩
/-- two cells of a box are written -/
theorem put2 {w : World} {b : Nat} {x0 x1 : Value} (c0 : w.cell? ⟨b, 0, none⟩ = some x0) (c1 : w.cell? ⟨b, 1, none⟩ = some x1) (v0 v1 : Value) :
    (w.setCell ⟨b, 0, none⟩ v0).cell? ⟨b, 0, none⟩ = some v0 ∧ ((w.setCell ⟨b, 0, none⟩ v0).setCell ⟨b, 1, none⟩ v1).cell? ⟨b, 1, none⟩ = some v1 :=
  ⟨World.cell?_setCell_same _ _ _ c0, World.cell?_setCell_same _ _ _ ((World.cell?_setCell_other _ _ _ _ (by simp)).trans c1)⟩
end Go.Proofs.YtlofopnjjeeehaaDoor.Bn
namespace Go.Proofs.YtlofopnjjeeehaaDoor.Bn
open Go.RowKit

set_option maxHeartbeats 400000 in
theorem within_any (n low high : Int) (w : World) :
    Calls Tryd.prog 35 #[.int .i64 n, .int .i64 low, .int .i64 high] w fun e w' => e = .returned (.bool (withinB n low high)) ∧ w = w' := by
  go_enter Tryd.func35, Tryd.ntmps35
  go_wp2
  all_goals (go_ret; exact ⟨ret_bool (by simp [withinB]; omega), rfl⟩)
set_option maxHeartbeats 400000 in
theorem isSpan_any (s : Spn) (low high : Int) (w : World) :
    Calls Tryd.prog 26 #[s.val, .int .i64 low, .int .i64 high] w fun e w' => e = .returned (.bool (spanB s low high)) ∧ Below w.heap.size w w' := by
  go_enter Tryd.func26, Tryd.ntmps26
  go_wp2
  all_goals (go_ret; exact ⟨ret_bool (by rw [Bool.eq_iff_iff]; simp [spanB]; omega), (by repeat' (first | exact Below.refl _ _ | assumption | apply below_drewN | apply Below.drew | (refine Below.alloc ?_ ?_ _) | (refine Below.setCell ?_ ?_ _) | (simp; done) | (simp; omega) | omega))⟩)
/-- a product of whole numbers is within bounds -/
theorem mulb {a b : Int} {x y : Int} (h1 : 0 ≤ a) (h2 : a ≤ x) (h3 : 0 ≤ b) (h4 : b ≤ y) : 0 ≤ a * b ∧ a * b ≤ x * y := ⟨Int.mul_nonneg h1 h3, Int.mul_le_mul h2 h4 h3 (by omega)⟩
theorem mulsb {a b : Int} {x y : Int} (h1 : -x ≤ a) (h2 : a ≤ x) (h3 : 0 ≤ b) (h4 : b ≤ y) : -(x * y) ≤ a * b ∧ a * b ≤ x * y := by
  have hx : 0 ≤ x := by omega
  have k1 : x * b ≤ x * y := Int.mul_le_mul_of_nonneg_left h4 hx
  have k2 : a * b ≤ x * b := Int.mul_le_mul_of_nonneg_right h2 h3
  have k3 : -x * b ≤ a * b := Int.mul_le_mul_of_nonneg_right h1 h3
  rw [Int.neg_mul] at k3
  omega
set_option maxHeartbeats 400000 in
theorem compare_any (a b : Frac) (w : World) (h1 : -4000000000000000000 ≤ a.top * b.under ∧ a.top * b.under ≤ 4000000000000000000) (h2 : -4000000000000000000 ≤ b.top * a.under ∧ b.top * a.under ≤ 4000000000000000000) :
    Calls Tryd.prog 59 #[a.val, b.val] w fun e w' => e = .returned (.int .i64 (a.top * b.under - b.top * a.under)) ∧ Below w.heap.size w w' := by
  go_enter Tryd.func59, Tryd.ntmps59
  go_wp2
  all_goals (go_ret; exact ⟨rfl, (by repeat' (first | exact Below.refl _ _ | assumption | apply below_drewN | apply Below.drew | (refine Below.alloc ?_ ?_ _) | (refine Below.setCell ?_ ?_ _) | (simp; done) | (simp; omega) | omega))⟩)
/-- a fraction less another one, and an integer -/
def Frac.minus (a b : Frac) (n : Int) : Frac := ⟨a.top * b.under - b.top * a.under - n * a.under * b.under, a.under * b.under⟩
set_option maxHeartbeats 400000 in
theorem minus_any (a b : Frac) (n : Int) (w : World) (h1 : -1000000000000000000 ≤ a.top * b.under ∧ a.top * b.under ≤ 1000000000000000000) (h2 : -1000000000000000000 ≤ b.top * a.under ∧ b.top * a.under ≤ 1000000000000000000)
    (h3 : -1000000000000000000 ≤ n * a.under ∧ n * a.under ≤ 1000000000000000000) (h4 : -1000000000000000000 ≤ n * a.under * b.under ∧ n * a.under * b.under ≤ 1000000000000000000) (h5 : -1000000000000000000 ≤ a.under * b.under ∧ a.under * b.under ≤ 1000000000000000000) :
    Calls Tryd.prog 74 #[a.val, b.val, .int .i64 n] w fun e w' => e = .returned (a.minus b n).val ∧ Below w.heap.size w w' := by
  go_enter Tryd.func74, Tryd.ntmps74
  go_wp2
  refine bodyPost_ret (v := .agg #[.int .i64 (a.top * b.under - b.top * a.under - n * a.under * b.under), .int .i64 (a.under * b.under)]) (by simp [results, Tryd.results74, go_sem]) rfl ⟨rfl, (by repeat' (first | exact Below.refl _ _ | assumption | apply below_drewN | apply Below.drew | (refine Below.alloc ?_ ?_ _) | (refine Below.setCell ?_ ?_ _) | (simp; done) | (simp; omega) | omega))⟩
end Go.Proofs.YtlofopnjjeeehaaDoor.Bn
namespace Go.Proofs.YtlofopnjjeeehaaDoor.Bn
open Go.RowKit
/-- a fraction, rounded down, and up -/
def Frac.down (f : Frac) : Int := f.top / f.under
def Frac.up (f : Frac) : Int := -((-f.top) / f.under)
theorem tdiv_bd {a u : Int} (hu : 0 < u) (h : -4000000000000000000 ≤ a ∧ a ≤ 4000000000000000000) : -4000000000000000000 ≤ a.tdiv u ∧ a.tdiv u ≤ 4000000000000000000 := by
  rcases Int.le_total 0 a with h0 | h0
  · rw [Int.tdiv_eq_ediv_of_nonneg h0]
    have := Int.ediv_nonneg h0 (Int.le_of_lt hu)
    have := Int.ediv_le_self u h0
    omega
  · have e : a.tdiv u = -((-a).tdiv u) := by rw [Int.neg_tdiv]; omega
    rw [e, Int.tdiv_eq_ediv_of_nonneg (by omega)]
    have := Int.ediv_nonneg (a := -a) (by omega) (Int.le_of_lt hu)
    have := Int.ediv_le_self (a := -a) u (by omega)
    omega
theorem tmod_bd {a u : Int} (hu : 0 < u) : -u < a.tmod u ∧ a.tmod u < u := by
  have := Int.tmod_lt_of_pos a hu
  have e : a.tmod u = -((-a).tmod u) := by rw [Int.neg_tmod]; omega
  have := Int.tmod_lt_of_pos (-a) hu
  omega
theorem down_neg {a u : Int} (hu : 0 < u) (h : a.tmod u < 0) : a.tdiv u - 1 = a / u := by
  have e := Int.mul_tdiv_add_tmod a u
  have b := tmod_bd (a := a) hu
  refine (Int.ediv_eq_iff_of_pos hu |>.2 ⟨?_, ?_⟩).symm
  · rw [Int.sub_mul, Int.mul_comm (a.tdiv u) u]; omega
  · rw [Int.sub_mul, Int.mul_comm (a.tdiv u) u]; omega
theorem down_nonneg {a u : Int} (hu : 0 < u) (h : 0 ≤ a.tmod u) : a.tdiv u = a / u := by
  have e := Int.mul_tdiv_add_tmod a u
  have b := tmod_bd (a := a) hu
  refine (Int.ediv_eq_iff_of_pos hu |>.2 ⟨?_, ?_⟩).symm
  · rw [Int.mul_comm (a.tdiv u) u]; omega
  · rw [Int.mul_comm (a.tdiv u) u]; omega
theorem up_pos {a u : Int} (hu : 0 < u) (h : 0 < a.tmod u) : a.tdiv u + 1 = -((-a) / u) := by
  have := down_neg (a := -a) hu (by rw [Int.neg_tmod]; omega)
  rw [Int.neg_tdiv] at this
  omega
theorem up_nonpos {a u : Int} (hu : 0 < u) (h : a.tmod u ≤ 0) : a.tdiv u = -((-a) / u) := by
  have := down_nonneg (a := -a) hu (by rw [Int.neg_tmod]; omega)
  rw [Int.neg_tdiv] at this
  omega
set_option maxHeartbeats 400000 in
theorem round_down (f : Frac) (w : World) (hu : 0 < f.under) (h : -4000000000000000000 ≤ f.top ∧ f.top ≤ 4000000000000000000) :
    Calls Tryd.prog 23 #[f.val, .int .i64 0] w fun e w' => e = .returned (.int .i64 f.down) ∧ Below w.heap.size w w' := by
  have hb := tdiv_bd hu h
  have hm := tmod_bd (a := f.top) hu
  have h0 : f.under ≠ 0 := by omega
  have HU := Lib.hid hu
  by_cases hr : f.top.tmod f.under < 0
  · have HR := Lib.hid hr
    go_enter Tryd.func23, Tryd.ntmps23
    go_wp2_with fail
    go_big_quiet (fail)
    go_wp2
    go_ret
    exact ⟨ret_int (down_neg HU.out HR.out), (by repeat' (first | exact Below.refl _ _ | assumption | apply below_drewN | apply Below.drew | (refine Below.alloc ?_ ?_ _) | (refine Below.setCell ?_ ?_ _) | (simp; done) | (simp; omega) | omega))⟩
  · have HR := Lib.hid hr
    go_enter Tryd.func23, Tryd.ntmps23
    go_wp2_with fail
    go_big_quiet (fail)
    go_wp2
    all_goals
      go_ret
      exact ⟨ret_int (down_nonneg HU.out (by have := HR.out; omega)), (by repeat' (first | exact Below.refl _ _ | assumption | apply below_drewN | apply Below.drew | (refine Below.alloc ?_ ?_ _) | (refine Below.setCell ?_ ?_ _) | (simp; done) | (simp; omega) | omega))⟩
set_option maxHeartbeats 400000 in
theorem round_up (f : Frac) (w : World) (hu : 0 < f.under) (h : -4000000000000000000 ≤ f.top ∧ f.top ≤ 4000000000000000000) :
    Calls Tryd.prog 23 #[f.val, .int .i64 1] w fun e w' => e = .returned (.int .i64 f.up) ∧ Below w.heap.size w w' := by
  have hb := tdiv_bd hu h
  have hm := tmod_bd (a := f.top) hu
  have h0 : f.under ≠ 0 := by omega
  have HU := Lib.hid hu
  by_cases hr : 0 < f.top.tmod f.under
  · have HR := Lib.hid hr
    go_enter Tryd.func23, Tryd.ntmps23
    go_wp2_with fail
    go_big_quiet (fail)
    go_wp2
    go_ret
    exact ⟨ret_int (up_pos HU.out HR.out), (by repeat' (first | exact Below.refl _ _ | assumption | apply below_drewN | apply Below.drew | (refine Below.alloc ?_ ?_ _) | (refine Below.setCell ?_ ?_ _) | (simp; done) | (simp; omega) | omega))⟩
  · have HR := Lib.hid hr
    go_enter Tryd.func23, Tryd.ntmps23
    go_wp2_with fail
    go_big_quiet (fail)
    go_wp2
    all_goals
      go_ret
      exact ⟨ret_int (up_nonpos HU.out (by have := HR.out; omega)), (by repeat' (first | exact Below.refl _ _ | assumption | apply below_drewN | apply Below.drew | (refine Below.alloc ?_ ?_ _) | (refine Below.setCell ?_ ?_ _) | (simp; done) | (simp; omega) | omega))⟩
theorem tdiv_mul_bd {a u : Int} (hu : 0 < u) (h : -4000000000000000000 ≤ a ∧ a ≤ 4000000000000000000) : -4000000000000000000 ≤ a.tdiv u * u ∧ a.tdiv u * u ≤ 4000000000000000000 := by
  have e := Int.mul_tdiv_add_tmod a u
  rw [Int.mul_comm] at e
  rcases Int.le_total 0 a with h0 | h0
  · have := Int.tmod_nonneg u h0
    have := Int.mul_nonneg (Int.tdiv_nonneg h0 (Int.le_of_lt hu)) (Int.le_of_lt hu)
    omega
  · have := Int.tmod_nonneg u (a := -a) (by omega)
    rw [Int.neg_tmod] at this
    have := Int.mul_nonneg (Int.tdiv_nonneg (a := -a) (b := u) (by omega) (Int.le_of_lt hu)) (Int.le_of_lt hu)
    rw [Int.neg_tdiv, Int.neg_mul] at this
    omega
end Go.Proofs.YtlofopnjjeeehaaDoor.Bn
namespace Go.Proofs.YtlofopnjjeeehaaDoor.Bn
open Go.RowKit
set_option maxHeartbeats 400000 in
theorem at1_any (t : Mark) (x : Int) (xb : Nat) (w : World) (hblk : xb < w.heap.size) (hc : w.cell? ⟨xb, 0, none⟩ = some (.int .i64 x)) :
    Calls Tryd.prog 71 #[t.val, .pointer (some ⟨xb, 0, none⟩)] w fun e w' => e = .returned (.bool (decide (x ≤ t.at_))) ∧ Below w.heap.size w w' := by
  go_enter Tryd.func71, Tryd.ntmps71
  go_wp2
  all_goals (go_ret; exact ⟨ret_bool (by simp), (by repeat' (first | exact Below.refl _ _ | assumption | apply below_drewN | apply Below.drew | (refine Below.alloc ?_ ?_ _) | (refine Below.setCell ?_ ?_ _) | (simp; done) | (simp; omega) | omega))⟩)
set_option maxHeartbeats 400000 in
theorem indexMarks_at (oa : Option Addr) (n cap : Nat) (t : Nat → Mark) (x : Int) (xb m : Nat) (w : World) (hn : n ≤ 1000000) (hT : MarksAt w oa n t) (hblk : xb < w.heap.size) (hc : w.cell? ⟨xb, 0, none⟩ = some (.int .i64 x))
    (hm : m < n) (hno : ∀ j, j < m → ¬ x ≤ (t j).at_) (hyes : x ≤ (t m).at_) :
    Calls Tryd.prog 70 #[.slice oa n cap, .func (.func 71) #[] #[.pointer (some ⟨xb, 0, none⟩)]] w fun e w' => e = .returned (.int .i64 (m : Nat)) ∧ Below w.heap.size w w' := by
  have HT := Lib.hid hT
  have HN := Lib.hid hno
  have HY := Lib.hid hyes
  clear hT hno hyes
  go_enter Tryd.func70, Tryd.ntmps70
  go_wp2
  go_loopw [5, 8] (fun v5 v8 wr => ∃ k : Nat, k ≤ m ∧ v8 = .int .i64 k ∧ Below w.heap.size w wr) (fun _ i _ => n - (intOf i).toNat)
  case atStart => exact ⟨0, Nat.zero_le _, rfl, Below.refl _ _⟩
  case round =>
    obtain ⟨k, hk, rfl, hb⟩ := hrel
    have hlt : k < n := by omega
    obtain ⟨b, off, rfl, hlt0, h0, h1⟩ := (HT.out.mono hb) k hlt
    have hblk1 : xb < wr.heap.size := Nat.lt_of_lt_of_le hblk hb.size
    have hc1 := (hb.cell (p := ⟨xb, 0, none⟩) hblk).trans hc
    by_cases hk2 : k = m
    · subst hk2
      have hd : decide (x ≤ (t k).at_) = true := by simpa using HY.out
      go_wp2_with (go_at_call 71; refine (at1_any _ x xb _ hblk1 hc1).mono ?_; rintro e w1 ⟨rfl, hb1⟩)
      go_ret
      exact ⟨rfl, hb.trans (hb1.mono hb.size)⟩
    · have hd : decide (x ≤ (t k).at_) = false := by simpa using HN.out k (by omega)
      go_wp2_with (go_at_call 71; refine (at1_any _ x xb _ hblk1 hc1).mono ?_; rintro e w1 ⟨rfl, hb1⟩)
      go_roundw
      case rel => exact ⟨k + 1, by omega, by go_num, hb.trans (hb1.mono hb.size)⟩
      case measure => simp [intOf]; omega
/-- the bounds of a valid table -/
structure Tab (n : Nat) (t : Nat → Mark) : Prop where
  two : 2 ≤ n
  few : n ≤ 12
  inc : ∀ i, i + 1 < n → (t i).at_ < (t (i + 1)).at_
  at0 : ∀ i, i < n → 0 ≤ (t i).at_
  at1 : ∀ i, i < n → (t i).at_ ≤ 10000
  v0 : ∀ i, i < n → 1 ≤ (t i).value
  v1 : ∀ i, i < n → (t i).value ≤ 10000000
/-- the mark behind a number -/
def tabI (n : Nat) (t : Nat → Mark) (x : Int) : Nat := firstFrom (fun i => decide (x ≤ (t i).at_)) (n - 1) 1
def atF (t : Nat → Mark) (i : Nat) (x : Int) : Frac := ⟨(t (i - 1)).value * ((t i).at_ - (t (i - 1)).at_) + ((t i).value - (t (i - 1)).value) * (x - (t (i - 1)).at_), (t i).at_ - (t (i - 1)).at_⟩
def tabAt (n : Nat) (t : Nat → Mark) (x : Int) : Frac := atF t (tabI n t x) x
theorem tabI_spec {n : Nat} {t : Nat → Mark} {x : Int} (hn : 2 ≤ n) (hx : x ≤ (t (n - 1)).at_) :
    1 ≤ tabI n t x ∧ tabI n t x < n ∧ (∀ j, 1 ≤ j → j < tabI n t x → ¬ x ≤ (t j).at_) ∧ x ≤ (t (tabI n t x)).at_ := by
  obtain ⟨h0, h1, h2, h3⟩ := firstFrom_spec (p := fun i => decide (x ≤ (t i).at_)) (k := n - 1) (i := 1)
  have hlt : tabI n t x < n := by
    by_cases h : tabI n t x < n
    · exact h
    · have := h2 (n - 1) (by omega) (by unfold tabI at h; omega)
      simp at this; omega
  exact ⟨h0, hlt, fun j hj hm => by simpa using h2 j hj hm, by have := h3 (by unfold tabI at hlt; omega); simp only [decide_eq_true_eq] at this; exact this⟩
end Go.Proofs.YtlofopnjjeeehaaDoor.Bn
