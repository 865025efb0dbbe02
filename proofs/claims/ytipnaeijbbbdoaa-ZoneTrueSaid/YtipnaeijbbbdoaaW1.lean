/- Zone: the data; the small ones: within, isSpan, in, span, ratios, need, cut, own spans. -/
import Derived.Test.YtipnaeijbbbdoaaRows
import Derived.WalkSpells
import Derived.Lib.Hide
import Derived.Test.YtipnaeijbbbdoaaPhase
namespace Go.Proofs.Ytipnaeijbbbdoaa
open Go.RowKit
/-- a zone: what flows in, meters, their error, lawful use, what it is a part of -/
structure Zon where
  i : Spn
  m : Spn
  e : Spn
  l : Spn
  p : Int
abbrev Zon.cells (z : Zon) : Array Value := #[.int .i64 z.i.lo, .int .i64 z.i.hi, .int .i64 z.m.lo, .int .i64 z.m.hi, .int .i64 z.e.lo, .int .i64 z.e.hi, .int .i64 z.l.lo, .int .i64 z.l.hi, .int .i64 z.p]
abbrev Zon.val (z : Zon) : Value := .agg z.cells
/-- a row of zones, in memory -/
def ZonsAt (w : World) (oa : Option Addr) (n : Nat) (z : Nat → Zon) : Prop :=
  ∀ i, i < n → ∃ b off, oa = some ⟨b, off, none⟩ ∧ b < w.heap.size ∧ w.cell? ⟨b, off + i * 9, none⟩ = some (.int .i64 (z i).i.lo) ∧ w.cell? ⟨b, off + i * 9 + 1, none⟩ = some (.int .i64 (z i).i.hi) ∧ w.cell? ⟨b, off + i * 9 + 1 + 1, none⟩ = some (.int .i64 (z i).m.lo) ∧ w.cell? ⟨b, off + i * 9 + 1 + 1 + 1, none⟩ = some (.int .i64 (z i).m.hi) ∧ w.cell? ⟨b, off + i * 9 + 1 + 1 + 1 + 1, none⟩ = some (.int .i64 (z i).e.lo) ∧ w.cell? ⟨b, off + i * 9 + 1 + 1 + 1 + 1 + 1, none⟩ = some (.int .i64 (z i).e.hi) ∧ w.cell? ⟨b, off + i * 9 + 1 + 1 + 1 + 1 + 1 + 1, none⟩ = some (.int .i64 (z i).l.lo) ∧ w.cell? ⟨b, off + i * 9 + 1 + 1 + 1 + 1 + 1 + 1 + 1, none⟩ = some (.int .i64 (z i).l.hi) ∧ w.cell? ⟨b, off + i * 9 + 1 + 1 + 1 + 1 + 1 + 1 + 1 + 1, none⟩ = some (.int .i64 (z i).p)
theorem ZonsAt.mono {w w' : World} {oa : Option Addr} {n : Nat} {z : Nat → Zon} (h : ZonsAt w oa n z) (hb : Below w.heap.size w w') : ZonsAt w' oa n z := fun i hi => by
  obtain ⟨b, off, ha, hlt, h0, h1, h2, h3, h4, h5, h6, h7, h8⟩ := h i hi
  exact ⟨b, off, ha, Nat.lt_of_lt_of_le hlt hb.size, (hb.cell (p := ⟨b, off + i * 9, none⟩) hlt).trans h0, (hb.cell (p := ⟨b, off + i * 9 + 1, none⟩) hlt).trans h1, (hb.cell (p := ⟨b, off + i * 9 + 1 + 1, none⟩) hlt).trans h2, (hb.cell (p := ⟨b, off + i * 9 + 1 + 1 + 1, none⟩) hlt).trans h3, (hb.cell (p := ⟨b, off + i * 9 + 1 + 1 + 1 + 1, none⟩) hlt).trans h4, (hb.cell (p := ⟨b, off + i * 9 + 1 + 1 + 1 + 1 + 1, none⟩) hlt).trans h5, (hb.cell (p := ⟨b, off + i * 9 + 1 + 1 + 1 + 1 + 1 + 1, none⟩) hlt).trans h6, (hb.cell (p := ⟨b, off + i * 9 + 1 + 1 + 1 + 1 + 1 + 1 + 1, none⟩) hlt).trans h7, (hb.cell (p := ⟨b, off + i * 9 + 1 + 1 + 1 + 1 + 1 + 1 + 1 + 1, none⟩) hlt).trans h8⟩
set_option maxHeartbeats 400000 in
theorem within_any (n low high : Int) (w : World) :
    Calls Try.prog 53 #[.int .i64 n, .int .i64 low, .int .i64 high] w fun e w' => e = .returned (.bool (withinB n low high)) ∧ w = w' := by
  go_enter Try.func53, Try.ntmps53
  go_wp2
  all_goals (go_ret; exact ⟨ret_bool (by simp [withinB]; omega), rfl⟩)
set_option maxHeartbeats 400000 in
theorem in_any (n low high : Int) (w : World) :
    Calls Try.prog 52 #[.int .i64 n, .int .i64 low, .int .i64 high] w fun e w' => e = .returned (.bool (withinB n low high)) ∧ w = w' := by
  go_enter Try.func52, Try.ntmps52
  go_wp2
  all_goals (go_ret; exact ⟨ret_bool (by simp [withinB]; omega), rfl⟩)
set_option maxHeartbeats 400000 in
theorem isSpan_any (s : Spn) (low high : Int) (w : World) :
    Calls Try.prog 44 #[s.val, .int .i64 low, .int .i64 high] w fun e w' => e = .returned (.bool (spanB s low high)) ∧ Below w.heap.size w w' := by
  go_enter Try.func44, Try.ntmps44
  go_wp2
  all_goals (go_ret; exact ⟨ret_bool (by rw [Bool.eq_iff_iff]; simp [spanB]; try omega), below_alloc1 w _⟩)
set_option maxHeartbeats 400000 in
theorem dspanB_any (s : Spn) (low high : Int) (w : World) :
    Calls Try.prog 46 #[s.val, .int .i64 low, .int .i64 high] w fun e w' => e = .returned (.bool (spanB s low high)) ∧ Below w.heap.size w w' := by
  go_enter Try.func46, Try.ntmps46
  go_wp2
  all_goals (go_ret; exact ⟨ret_bool (by rw [Bool.eq_iff_iff]; simp [spanB]; try omega), below_alloc1 w _⟩)
set_option maxHeartbeats 400000 in
theorem lspan_any (a b : Int) (w : World) :
    Calls Try.prog 26 #[.int .i64 a, .int .i64 b] w fun e w' => e = .returned (.agg #[.int .i64 a, .int .i64 b]) ∧ Below w.heap.size w w' := by
  go_enter Try.func26, Try.ntmps26
  go_wp2
  refine bodyPost_ret (v := .agg #[.int .i64 a, .int .i64 b]) (by simp [results, Try.results26, go_sem]) rfl ⟨rfl, (by repeat' (first | exact Below.refl _ _ | assumption | apply below_drewN | apply Below.drew | (refine Below.alloc ?_ ?_ _) | (refine Below.setCell ?_ ?_ _) | (simp; done) | (simp; omega) | omega))⟩
/-- what went through, rounded down, and up -/
def thrD (s e : Int) : Int := 1000 * s / (1000 + e)
def thrU (s e : Int) : Int := (1000 * s + (1000 + e) - 1) / (1000 + e)
set_option maxHeartbeats 400000 in
theorem down_any (a b : Int) (w : World) (ha0 : 0 ≤ a) (ha : a ≤ 4000000000000) (hb0 : 1 ≤ b) (hb : b ≤ 10000) :
    Calls Try.prog 55 #[.agg #[.int .i64 a, .int .i64 b]] w fun e w' => e = .returned (.int .i64 (a / b)) ∧ Below w.heap.size w w' := by
  have hd : a.tdiv b = a / b := Int.tdiv_eq_ediv_of_nonneg ha0
  have hq0 : 0 ≤ a / b := Int.ediv_nonneg ha0 (by omega)
  have hq1 : a / b ≤ a := Int.ediv_le_self _ ha0
  have x1 : (b == 0) = false := by simp; omega
  have x2 : b ≠ 0 := by omega
  obtain ⟨q, hq⟩ : ∃ q, q = a / b := ⟨_, rfl⟩
  rw [← hq] at hd hq0 hq1 ⊢
  clear hq
  go_enter Try.func55, Try.ntmps55
  go_wp2_with fail
  go_ret
  exact ⟨rfl, below_alloc1 w _⟩
set_option maxHeartbeats 400000 in
theorem up_any (a b : Int) (w : World) (ha0 : 0 ≤ a) (ha : a ≤ 4000000000000) (hb0 : 1 ≤ b) (hb : b ≤ 10000) :
    Calls Try.prog 56 #[.agg #[.int .i64 a, .int .i64 b]] w fun e w' => e = .returned (.int .i64 ((a + b - 1) / b)) ∧ Below w.heap.size w w' := by
  have ha1 : 0 ≤ a + b - 1 := by omega
  have hd : (a + b - 1).tdiv b = (a + b - 1) / b := Int.tdiv_eq_ediv_of_nonneg ha1
  have hq0 : 0 ≤ (a + b - 1) / b := Int.ediv_nonneg ha1 (by omega)
  have hq1 : (a + b - 1) / b ≤ a + b - 1 := Int.ediv_le_self _ ha1
  have x1 : (b == 0) = false := by simp; omega
  have x2 : b ≠ 0 := by omega
  obtain ⟨q, hq⟩ : ∃ q, q = (a + b - 1) / b := ⟨_, rfl⟩
  rw [← hq] at hd hq0 hq1 ⊢
  clear hq
  go_enter Try.func56, Try.ntmps56
  go_wp2_with fail
  go_ret
  exact ⟨rfl, below_alloc1 w _⟩
set_option maxHeartbeats 800000 in
theorem throughD_any (s e : Int) (w : World) (h0 : 0 ≤ s) (h1 : s ≤ 1073741824) (he0 : -500 ≤ e) (he1 : e ≤ 500) :
    Calls Try.prog 54 #[.int .i64 s, .int .i64 e, .func (.func 55) #[] #[]] w fun en w' => en = .returned (.int .i64 (thrD s e)) ∧ Below w.heap.size w w' := by
  go_enter Try.func54, Try.ntmps54
  go_wp2_with fail
  refine (down_any (1000 * s) (1000 + e) w (by omega) (by omega) (by omega) (by omega)).mono ?_
  rintro en w1 ⟨rfl, hb⟩
  go_wp2_with fail
  go_ret
  exact ⟨rfl, hb⟩
set_option maxHeartbeats 800000 in
theorem throughU_any (s e : Int) (w : World) (h0 : 0 ≤ s) (h1 : s ≤ 1073741824) (he0 : -500 ≤ e) (he1 : e ≤ 500) :
    Calls Try.prog 54 #[.int .i64 s, .int .i64 e, .func (.func 56) #[] #[]] w fun en w' => en = .returned (.int .i64 (thrU s e)) ∧ Below w.heap.size w w' := by
  go_enter Try.func54, Try.ntmps54
  go_wp2_with fail
  refine (up_any (1000 * s) (1000 + e) w (by omega) (by omega) (by omega) (by omega)).mono ?_
  rintro en w1 ⟨rfl, hb⟩
  go_wp2_with fail
  go_ret
  exact ⟨rfl, hb⟩
end Go.Proofs.Ytipnaeijbbbdoaa
