/- Rounding of fractions, on both sides; the error of a meter; no conditions but bounds. -/
import Derived.Test.YthoefcpeagclbaaW1
namespace Go.Proofs.Ythoefcpeagclbaa
open Go.RowKit
/-- a fraction, rounded down, and up -/
def Frac.down (f : Frac) : Int := f.top / f.under
def Frac.up (f : Frac) : Int := -((-f.top) / f.under)
theorem tdiv_bd {a u : Int} (hu : 0 < u) (h : -4000000000000000000 ≤ a ∧ a ≤ 4000000000000000000) : -4000000000000000000 ≤ a.tdiv u ∧ a.tdiv u ≤ 4000000000000000000 := by
  rcases Int.le_total 0 a with h0 | h0
  · rw [Int.tdiv_eq_ediv_of_nonneg h0]
    have := Int.ediv_nonneg h0 (Int.le_of_lt hu)
    have := Int.ediv_le_self u h0
    omega
  · have e : a.tdiv u = -((-a).tdiv u) := by rw [Int.neg_tdiv]; omega
    rw [e, Int.tdiv_eq_ediv_of_nonneg (by omega)]
    have := Int.ediv_nonneg (a := -a) (by omega) (Int.le_of_lt hu)
    have := Int.ediv_le_self (a := -a) u (by omega)
    omega
theorem tmod_bd {a u : Int} (hu : 0 < u) : -u < a.tmod u ∧ a.tmod u < u := by
  have := Int.tmod_lt_of_pos a hu
  have e : a.tmod u = -((-a).tmod u) := by rw [Int.neg_tmod]; omega
  have := Int.tmod_lt_of_pos (-a) hu
  omega
theorem down_neg {a u : Int} (hu : 0 < u) (h : a.tmod u < 0) : a.tdiv u - 1 = a / u := by
  have e := Int.mul_tdiv_add_tmod a u
  have b := tmod_bd (a := a) hu
  refine (Int.ediv_eq_iff_of_pos hu |>.2 ⟨?_, ?_⟩).symm
  · rw [Int.sub_mul, Int.mul_comm (a.tdiv u) u]; omega
  · rw [Int.sub_mul, Int.mul_comm (a.tdiv u) u]; omega
theorem down_nonneg {a u : Int} (hu : 0 < u) (h : 0 ≤ a.tmod u) : a.tdiv u = a / u := by
  have e := Int.mul_tdiv_add_tmod a u
  have b := tmod_bd (a := a) hu
  refine (Int.ediv_eq_iff_of_pos hu |>.2 ⟨?_, ?_⟩).symm
  · rw [Int.mul_comm (a.tdiv u) u]; omega
  · rw [Int.mul_comm (a.tdiv u) u]; omega
theorem up_pos {a u : Int} (hu : 0 < u) (h : 0 < a.tmod u) : a.tdiv u + 1 = -((-a) / u) := by
  have := down_neg (a := -a) hu (by rw [Int.neg_tmod]; omega)
  rw [Int.neg_tdiv] at this
  omega
theorem up_nonpos {a u : Int} (hu : 0 < u) (h : a.tmod u ≤ 0) : a.tdiv u = -((-a) / u) := by
  have := down_nonneg (a := -a) hu (by rw [Int.neg_tmod]; omega)
  rw [Int.neg_tdiv] at this
  omega
set_option maxHeartbeats 400000 in
theorem round_down (f : Frac) (w : World) (hu : 0 < f.under) (h : -4000000000000000000 ≤ f.top ∧ f.top ≤ 4000000000000000000) :
    Calls Try.prog 35 #[f.val, .int .i64 0] w fun e w' => e = .returned (.int .i64 f.down) ∧ Below w.heap.size w w' := by
  have hb := tdiv_bd hu h
  have hm := tmod_bd (a := f.top) hu
  have h0 : f.under ≠ 0 := by omega
  have HU := Lib.hid hu
  by_cases hr : f.top.tmod f.under < 0
  · have HR := Lib.hid hr
    go_enter Try.func35, Try.ntmps35
    go_wp2_with fail
    go_big_quiet (fail)
    go_wp2
    go_ret
    exact ⟨ret_int (down_neg HU.out HR.out), (by repeat' (first | exact Below.refl _ _ | assumption | apply below_drewN | apply Below.drew | (refine Below.alloc ?_ ?_ _) | (refine Below.setCell ?_ ?_ _) | (simp; done) | (simp; omega) | omega))⟩
  · have HR := Lib.hid hr
    go_enter Try.func35, Try.ntmps35
    go_wp2_with fail
    go_big_quiet (fail)
    go_wp2
    all_goals
      go_ret
      exact ⟨ret_int (down_nonneg HU.out (by have := HR.out; omega)), (by repeat' (first | exact Below.refl _ _ | assumption | apply below_drewN | apply Below.drew | (refine Below.alloc ?_ ?_ _) | (refine Below.setCell ?_ ?_ _) | (simp; done) | (simp; omega) | omega))⟩
set_option maxHeartbeats 400000 in
theorem round_up (f : Frac) (w : World) (hu : 0 < f.under) (h : -4000000000000000000 ≤ f.top ∧ f.top ≤ 4000000000000000000) :
    Calls Try.prog 35 #[f.val, .int .i64 1] w fun e w' => e = .returned (.int .i64 f.up) ∧ Below w.heap.size w w' := by
  have hb := tdiv_bd hu h
  have hm := tmod_bd (a := f.top) hu
  have h0 : f.under ≠ 0 := by omega
  have HU := Lib.hid hu
  by_cases hr : 0 < f.top.tmod f.under
  · have HR := Lib.hid hr
    go_enter Try.func35, Try.ntmps35
    go_wp2_with fail
    go_big_quiet (fail)
    go_wp2
    go_ret
    exact ⟨ret_int (up_pos HU.out HR.out), (by repeat' (first | exact Below.refl _ _ | assumption | apply below_drewN | apply Below.drew | (refine Below.alloc ?_ ?_ _) | (refine Below.setCell ?_ ?_ _) | (simp; done) | (simp; omega) | omega))⟩
  · have HR := Lib.hid hr
    go_enter Try.func35, Try.ntmps35
    go_wp2_with fail
    go_big_quiet (fail)
    go_wp2
    all_goals
      go_ret
      exact ⟨ret_int (up_nonpos HU.out (by have := HR.out; omega)), (by repeat' (first | exact Below.refl _ _ | assumption | apply below_drewN | apply Below.drew | (refine Below.alloc ?_ ?_ _) | (refine Below.setCell ?_ ?_ _) | (simp; done) | (simp; omega) | omega))⟩
theorem tdiv_mul_bd {a u : Int} (hu : 0 < u) (h : -4000000000000000000 ≤ a ∧ a ≤ 4000000000000000000) : -4000000000000000000 ≤ a.tdiv u * u ∧ a.tdiv u * u ≤ 4000000000000000000 := by
  have e := Int.mul_tdiv_add_tmod a u
  rw [Int.mul_comm] at e
  rcases Int.le_total 0 a with h0 | h0
  · have := Int.tmod_nonneg u h0
    have := Int.mul_nonneg (Int.tdiv_nonneg h0 (Int.le_of_lt hu)) (Int.le_of_lt hu)
    omega
  · have := Int.tmod_nonneg u (a := -a) (by omega)
    rw [Int.neg_tmod] at this
    have := Int.mul_nonneg (Int.tdiv_nonneg (a := -a) (b := u) (by omega) (Int.le_of_lt hu)) (Int.le_of_lt hu)
    rw [Int.neg_tdiv, Int.neg_mul] at this
    omega
set_option maxHeartbeats 400000 in
theorem down_any (f : Frac) (w : World) (hu : 0 < f.under) (h : -4000000000000000000 ≤ f.top ∧ f.top ≤ 4000000000000000000) :
    Calls Try.prog 27 #[f.val] w fun e w' => e = .returned (.int .i64 f.down) ∧ Below w.heap.size w w' := by
  have hb := tdiv_bd hu h
  have hm := tdiv_mul_bd hu h
  have e := Int.mul_tdiv_add_tmod f.top f.under
  rw [Int.mul_comm] at e
  have h0 : f.under ≠ 0 := by omega
  have HU := Lib.hid hu
  have HE := Lib.hid e
  clear e
  go_enter Try.func27, Try.ntmps27
  go_wp2
  · go_ret
    exact ⟨ret_int (down_neg HU.out (by have := HE.out; omega)), (by repeat' (first | exact Below.refl _ _ | assumption | apply below_drewN | apply Below.drew | (refine Below.alloc ?_ ?_ _) | (refine Below.setCell ?_ ?_ _) | (simp; done) | (simp; omega) | omega))⟩
  · go_ret
    exact ⟨ret_int (down_nonneg HU.out (by have := HE.out; omega)), (by repeat' (first | exact Below.refl _ _ | assumption | apply below_drewN | apply Below.drew | (refine Below.alloc ?_ ?_ _) | (refine Below.setCell ?_ ?_ _) | (simp; done) | (simp; omega) | omega))⟩
set_option maxHeartbeats 400000 in
theorem up_any (f : Frac) (w : World) (hu : 0 < f.under) (h : -4000000000000000000 ≤ f.top ∧ f.top ≤ 4000000000000000000) :
    Calls Try.prog 28 #[f.val] w fun e w' => e = .returned (.int .i64 f.up) ∧ Below w.heap.size w w' := by
  have hk : -4000000000000000000 ≤ -f.top ∧ -f.top ≤ 4000000000000000000 := by omega
  have hd := tdiv_bd (a := -f.top) hu hk
  have he : -4000000000000000001 ≤ (⟨-f.top, f.under⟩ : Frac).down ∧ (⟨-f.top, f.under⟩ : Frac).down ≤ 4000000000000000000 := by
    show -4000000000000000001 ≤ (-f.top) / f.under ∧ (-f.top) / f.under ≤ 4000000000000000000
    by_cases hr : (-f.top).tmod f.under < 0
    · have := down_neg hu hr; omega
    · have := down_nonneg (a := -f.top) hu (by omega); omega
  go_enter Try.func28, Try.ntmps28
  go_wp2_with (go_at_call 27; refine (down_any ⟨-f.top, f.under⟩ _ hu hk).mono ?_; rintro e w1 ⟨rfl, hb1⟩)
  go_ret
  exact ⟨rfl, (Below.trans ((by repeat' (first | exact Below.refl _ _ | assumption | apply below_drewN | apply Below.drew | (refine Below.alloc ?_ ?_ _) | (refine Below.setCell ?_ ?_ _) | (simp; done) | (simp; omega) | omega))) (Below.mono hb1 (by simp <;> omega)))⟩
set_option maxHeartbeats 400000 in
theorem error_any (s v : Int) (w : World) (h1 : -100000000000000 ≤ s ∧ s ≤ 100000000000000) (h2 : -100000000000000 ≤ v ∧ v ≤ 100000000000000) :
    Calls Try.prog 29 #[.int .i64 s, .int .i64 v] w fun e w' => e = .returned (Frac.val ⟨10000 * (s - v), v⟩) ∧ Below w.heap.size w w' := by
  go_enter Try.func29, Try.ntmps29
  go_wp2
  refine bodyPost_ret (v := .agg #[.int .i64 (10000 * (s - v)), .int .i64 v]) (by simp [results, Try.results29, go_sem]) rfl ⟨rfl, (by repeat' (first | exact Below.refl _ _ | assumption | apply below_drewN | apply Below.drew | (refine Below.alloc ?_ ?_ _) | (refine Below.setCell ?_ ?_ _) | (simp; done) | (simp; omega) | omega))⟩
end Go.Proofs.Ythoefcpeagclbaa
