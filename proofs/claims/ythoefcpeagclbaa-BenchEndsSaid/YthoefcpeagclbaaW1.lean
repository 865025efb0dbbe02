/- What the smallest functions of chapter 04 return: within, isSpan, compare, minus, and the document's in and span; no conditions. -/
import Derived.Test.YthoefcpeagclbaaRows
import Derived.WalkKit
import Derived.WalkSpells
import Derived.WalkLawsBesides
import Derived.Lib.Hide
import Derived.BigQuiet
import Derived.Test.YthoefcpeagclbaaData
namespace Go.Proofs.Ythoefcpeagclbaa
open Go.RowKit

set_option maxHeartbeats 400000 in
theorem within_any (n low high : Int) (w : World) :
    Calls Try.prog 43 #[.int .i64 n, .int .i64 low, .int .i64 high] w fun e w' => e = .returned (.bool (withinB n low high)) ∧ w = w' := by
  go_enter Try.func43, Try.ntmps43
  go_wp2
  all_goals (go_ret; exact ⟨ret_bool (by simp [withinB]; omega), rfl⟩)
set_option maxHeartbeats 400000 in
theorem in_any (n low high : Int) (w : World) :
    Calls Try.prog 48 #[.int .i64 n, .int .i64 low, .int .i64 high] w fun e w' => e = .returned (.bool (withinB n low high)) ∧ w = w' := by
  go_enter Try.func48, Try.ntmps48
  go_wp2
  all_goals (go_ret; exact ⟨ret_bool (by simp [withinB]; omega), rfl⟩)
set_option maxHeartbeats 400000 in
theorem isSpan_any (s : Spn) (low high : Int) (w : World) :
    Calls Try.prog 37 #[s.val, .int .i64 low, .int .i64 high] w fun e w' => e = .returned (.bool (spanB s low high)) ∧ Below w.heap.size w w' := by
  go_enter Try.func37, Try.ntmps37
  go_wp2
  all_goals (go_ret; exact ⟨ret_bool (by rw [Bool.eq_iff_iff]; simp [spanB]; omega), (by repeat' (first | exact Below.refl _ _ | assumption | apply below_drewN | apply Below.drew | (refine Below.alloc ?_ ?_ _) | (refine Below.setCell ?_ ?_ _) | (simp; done) | (simp; omega) | omega))⟩)
set_option maxHeartbeats 400000 in
theorem refSpan_any (s : Spn) (low high : Int) (w : World) :
    Calls Try.prog 38 #[s.val, .int .i64 low, .int .i64 high] w fun e w' => e = .returned (.bool (spanB s low high)) ∧ Below w.heap.size w w' := by
  go_enter Try.func38, Try.ntmps38
  go_wp2
  all_goals (go_ret; exact ⟨ret_bool (by rw [Bool.eq_iff_iff]; simp [spanB]; omega), (by repeat' (first | exact Below.refl _ _ | assumption | apply below_drewN | apply Below.drew | (refine Below.alloc ?_ ?_ _) | (refine Below.setCell ?_ ?_ _) | (simp; done) | (simp; omega) | omega))⟩)
/-- a product of whole numbers is within bounds -/
theorem mulb {a b : Int} {x y : Int} (h1 : 0 ≤ a) (h2 : a ≤ x) (h3 : 0 ≤ b) (h4 : b ≤ y) : 0 ≤ a * b ∧ a * b ≤ x * y := ⟨Int.mul_nonneg h1 h3, Int.mul_le_mul h2 h4 h3 (by omega)⟩
theorem mulsb {a b : Int} {x y : Int} (h1 : -x ≤ a) (h2 : a ≤ x) (h3 : 0 ≤ b) (h4 : b ≤ y) : -(x * y) ≤ a * b ∧ a * b ≤ x * y := by
  have hx : 0 ≤ x := by omega
  have k1 : x * b ≤ x * y := Int.mul_le_mul_of_nonneg_left h4 hx
  have k2 : a * b ≤ x * b := Int.mul_le_mul_of_nonneg_right h2 h3
  have k3 : -x * b ≤ a * b := Int.mul_le_mul_of_nonneg_right h1 h3
  rw [Int.neg_mul] at k3
  omega
set_option maxHeartbeats 400000 in
theorem compare_any (a b : Frac) (w : World) (h1 : -4000000000000000000 ≤ a.top * b.under ∧ a.top * b.under ≤ 4000000000000000000) (h2 : -4000000000000000000 ≤ b.top * a.under ∧ b.top * a.under ≤ 4000000000000000000) :
    Calls Try.prog 47 #[a.val, b.val] w fun e w' => e = .returned (.int .i64 (a.top * b.under - b.top * a.under)) ∧ Below w.heap.size w w' := by
  go_enter Try.func47, Try.ntmps47
  go_wp2
  all_goals (go_ret; exact ⟨rfl, (by repeat' (first | exact Below.refl _ _ | assumption | apply below_drewN | apply Below.drew | (refine Below.alloc ?_ ?_ _) | (refine Below.setCell ?_ ?_ _) | (simp; done) | (simp; omega) | omega))⟩)
set_option maxHeartbeats 400000 in
theorem less_any (a b : Frac) (w : World) (h1 : -4000000000000000000 ≤ a.top * b.under ∧ a.top * b.under ≤ 4000000000000000000) (h2 : -4000000000000000000 ≤ b.top * a.under ∧ b.top * a.under ≤ 4000000000000000000) :
    Calls Try.prog 30 #[a.val, b.val] w fun e w' => e = .returned (.bool (decide (a.top * b.under < b.top * a.under))) ∧ Below w.heap.size w w' := by
  go_enter Try.func30, Try.ntmps30
  go_wp2
  all_goals (go_ret; exact ⟨ret_bool (by simp), (by repeat' (first | exact Below.refl _ _ | assumption | apply below_drewN | apply Below.drew | (refine Below.alloc ?_ ?_ _) | (refine Below.setCell ?_ ?_ _) | (simp; done) | (simp; omega) | omega))⟩)
/-- a fraction less another one, and an integer -/
def Frac.minus (a b : Frac) (n : Int) : Frac := ⟨a.top * b.under - b.top * a.under - n * a.under * b.under, a.under * b.under⟩
set_option maxHeartbeats 400000 in
theorem minus_any (a b : Frac) (n : Int) (w : World) (h1 : -1000000000000000000 ≤ a.top * b.under ∧ a.top * b.under ≤ 1000000000000000000) (h2 : -1000000000000000000 ≤ b.top * a.under ∧ b.top * a.under ≤ 1000000000000000000)
    (h3 : -1000000000000000000 ≤ n * a.under ∧ n * a.under ≤ 1000000000000000000) (h4 : -1000000000000000000 ≤ n * a.under * b.under ∧ n * a.under * b.under ≤ 1000000000000000000) (h5 : -1000000000000000000 ≤ a.under * b.under ∧ a.under * b.under ≤ 1000000000000000000) :
    Calls Try.prog 89 #[a.val, b.val, .int .i64 n] w fun e w' => e = .returned (a.minus b n).val ∧ Below w.heap.size w w' := by
  go_enter Try.func89, Try.ntmps89
  go_wp2
  refine bodyPost_ret (v := .agg #[.int .i64 (a.top * b.under - b.top * a.under - n * a.under * b.under), .int .i64 (a.under * b.under)]) (by simp [results, Try.results89, go_sem]) rfl ⟨rfl, (by repeat' (first | exact Below.refl _ _ | assumption | apply below_drewN | apply Below.drew | (refine Below.alloc ?_ ?_ _) | (refine Below.setCell ?_ ?_ _) | (simp; done) | (simp; omega) | omega))⟩
set_option maxHeartbeats 400000 in
theorem refLess_any (a b : Frac) (n : Int) (w : World) (h1 : -1000000000000000000 ≤ a.top * b.under ∧ a.top * b.under ≤ 1000000000000000000) (h2 : -1000000000000000000 ≤ b.top * a.under ∧ b.top * a.under ≤ 1000000000000000000)
    (h3 : -1000000000000000000 ≤ n * a.under ∧ n * a.under ≤ 1000000000000000000) (h4 : -1000000000000000000 ≤ n * a.under * b.under ∧ n * a.under * b.under ≤ 1000000000000000000) (h5 : -1000000000000000000 ≤ a.under * b.under ∧ a.under * b.under ≤ 1000000000000000000) :
    Calls Try.prog 55 #[a.val, b.val, .int .i64 n] w fun e w' => e = .returned (a.minus b n).val ∧ Below w.heap.size w w' := by
  go_enter Try.func55, Try.ntmps55
  go_wp2
  refine bodyPost_ret (v := .agg #[.int .i64 (a.top * b.under - b.top * a.under - n * a.under * b.under), .int .i64 (a.under * b.under)]) (by simp [results, Try.results55, go_sem]) rfl ⟨rfl, (by repeat' (first | exact Below.refl _ _ | assumption | apply below_drewN | apply Below.drew | (refine Below.alloc ?_ ?_ _) | (refine Below.setCell ?_ ?_ _) | (simp; done) | (simp; omega) | omega))⟩
end Go.Proofs.Ythoefcpeagclbaa
