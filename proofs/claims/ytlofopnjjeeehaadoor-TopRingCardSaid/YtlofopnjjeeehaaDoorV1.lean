/- Travel: the data, the table of bounds, and what lessens one bound. -/
import Derived.Test.YtlofopnjjeeehaaDoorRows
import Derived.WalkSpells
import Derived.Lib.Hide
import Derived.Shelf.Spec.TrailingZeros
import Derived.Test.YtlofopnjjeeehaaDoorPhase
namespace Go.Proofs.YtlofopnjjeeehaaDoor
open Go.RowKit
/-- a table of 13 times 13 numbers, as cells -/
def cells13 (D : Nat → Nat → Int) : Array Value := (Array.range 169).map fun j => .int .i64 (D (j / 13) (j % 13))
theorem cells13_size (D : Nat → Nat → Int) : (cells13 D).size = 169 := by simp [cells13]
theorem cells13_get (D : Nat → Nat → Int) {i k : Nat} (hi : i < 13) (hk : k < 13) : (cells13 D)[i * 13 + k]? = some (.int .i64 (D i k)) := by
  have hj : i * 13 + k < 169 := by omega
  have e1 : (i * 13 + k) / 13 = i := by omega
  have e2 : (i * 13 + k) % 13 = k := by omega
  simp only [cells13, Array.getElem?_map, Array.getElem?_range, hj, if_true, Option.map_some, e1, e2]
/-- a table with one number set -/
def setT (D : Nat → Nat → Int) (i k : Nat) (v : Int) : Nat → Nat → Int := fun a b => if a = i ∧ b = k then v else D a b
theorem cells13_set (D : Nat → Nat → Int) {i k : Nat} (v : Int) (hk : k < 13) : (cells13 D).setIfInBounds (i * 13 + k) (.int .i64 v) = cells13 (setT D i k v) := by
  apply Array.ext
  · simp [cells13]
  · intro j h1 h2
    rw [cells13_size] at h2
    have e1 : (cells13 (setT D i k v))[j]? = some (.int .i64 (setT D i k v (j / 13) (j % 13))) := by
      simp only [cells13, Array.getElem?_map, Array.getElem?_range, h2, if_true, Option.map_some]
    have e2 : (cells13 D)[j]? = some (.int .i64 (D (j / 13) (j % 13))) := by
      simp only [cells13, Array.getElem?_map, Array.getElem?_range, h2, if_true, Option.map_some]
    have e3 : ((cells13 D).setIfInBounds (i * 13 + k) (.int .i64 v))[j]? = (cells13 (setT D i k v))[j]? := by
      rw [Array.getElem?_setIfInBounds, e1, e2, cells13_size]
      unfold setT
      by_cases hj : i * 13 + k = j
      · subst hj
        rw [if_pos rfl, if_pos h2, if_pos ⟨by omega, by omega⟩]
      · rw [if_neg hj, if_neg (fun h => hj (by omega))]
    rw [Array.getElem?_eq_getElem h1, Array.getElem?_eq_getElem (by rw [cells13_size]; exact h2)] at e3
    exact Option.some.inj e3
/-- a table with one number lessened -/
def minT (D : Nat → Nat → Int) (i k : Nat) (n : Int) : Nat → Nat → Int := setT D i k (min (D i k) n)
set_option maxHeartbeats 400000 in
theorem within_any (n low high : Int) (w : World) :
    Calls Tryd.prog 29 #[.int .i64 n, .int .i64 low, .int .i64 high] w fun e w' => e = .returned (.bool (withinB n low high)) ∧ w = w' := by
  go_enter Tryd.func29, Tryd.ntmps29
  go_wp2
  all_goals (go_ret; exact ⟨ret_bool (by simp [withinB]; omega), rfl⟩)
set_option maxHeartbeats 400000 in
theorem benchAt_any (n : Int) (w : World) (h0 : 0 ≤ n) (h1 : n ≤ 100) :
    Calls Tryd.prog 31 #[.int .i64 n] w fun e w' => e = .returned (.int .i64 (1 + n)) ∧ Below w.heap.size w w' := by
  go_enter Tryd.func31, Tryd.ntmps31
  go_wp2
  go_ret
  exact ⟨rfl, Below.refl _ _⟩
set_option maxHeartbeats 400000 in
theorem meterAt_any (n : Int) (w : World) (h0 : 0 ≤ n) (h1 : n ≤ 100) :
    Calls Tryd.prog 19 #[.int .i64 n] w fun e w' => e = .returned (.int .i64 (7 + n)) ∧ Below w.heap.size w w' := by
  go_enter Tryd.func19, Tryd.ntmps19
  go_wp2
  go_ret
  exact ⟨rfl, Below.refl _ _⟩
/-- the table's box has been written, and what was made since -/
structure Tab (g : Nat) (D : Nat → Nat → Int) (w w' : World) : Prop where
  but : But g w w'
  box : Box g (cells13 D) 63 w'
set_option maxRecDepth 100000 in
set_option maxHeartbeats 4000000 in
theorem atMost_any (i k g : Nat) (n : Int) (D : Nat → Nat → Int) (w : World) (hi : i < 13) (hk : k < 13) (hB : Box g (cells13 D) 63 w) :
    Calls Tryd.prog 30 #[.int .i64 (i : Nat), .int .i64 (k : Nat), .int .i64 n, .pointer (some ⟨g, 0, none⟩)] w fun e w' => (∃ v, e = .returned v) ∧ Tab g (minT D i k n) w w' := by
  have HB := Lib.hid hB
  clear hB
  have hi0 : (0 : Int) ≤ (i : Int) := by omega
  have hi1 : (i : Int) < 13 := by omega
  have hk0 : (0 : Int) ≤ (k : Int) := by omega
  have hk1 : (k : Int) < 13 := by omega
  have hx : i * 13 + k < (cells13 D).size := by rw [cells13_size]; omega
  have C0 := Lib.hid (cells13_get D hi hk)
  have C1 := Lib.hid (fun v => cells13_set D (i := i) v hk)
  go_enter Tryd.func30, Tryd.ntmps30
  go_wp2_with fail
  have hP0 : ∀ A B : World, (Below w.heap.size w A) → Below A.heap.size A B → Below w.heap.size w B := fun A B h1 h2 => h1.trans (h2.mono h1.size)
  have hP1 : ∀ A B : World, g < A.heap.size → Below A.heap.size A B → g < B.heap.size := fun _ _ h1 h2 => Nat.lt_of_lt_of_le h1 h2.size
  have hP01 : ∀ A : World, Below w.heap.size w A → g < A.heap.size := fun _ h1 => Nat.lt_of_lt_of_le HB.out.lt h1.size
  have hC0 : Below w.heap.size w w.drew := (Below.refl _ _).drew
  have HW := Lib.hid (show ∀ A : World, Below w.heap.size w A → Box g (cells13 D) 63 A from fun A h => HB.out.below h)
  obtain ⟨d, hd⟩ : ∃ d, d = D i k := ⟨_, rfl⟩
  rw [← hd] at C0
  have HD := Lib.hid hd
  clear hd
  have HV := Lib.hid (show min (D i k) n = if n < d then n else d by rw [← HD.out]; split <;> omega)
  refine wp_region_phase 11 (fun A => Below w.heap.size w A) (fun A => g < A.heap.size) (by kernel_rfl) ?_
  (refine wpAnyP_take0 (i := 0) hP0 hP1 hC0 (by decide) (by rfl) rfl (by kernel_rfl) rfl (by kernel_rfl) (by kernel_rfl) (by kernel_rfl) (fun _ _ _ _ h => h) (by rfl) ?_; apply Exists.intro; refine ⟨fun w1 h1 K hK => ?_, ?_⟩; · ( go_big_quiet_op; first | exact hK | fail))
  (refine wpAnyP_take0 (i := 1) hP0 hP1 hC0 (by decide) (by rfl) rfl (by kernel_rfl) rfl (by kernel_rfl) (by kernel_rfl) (by kernel_rfl) (fun _ _ _ _ h => h) (by rfl) ?_; apply Exists.intro; refine ⟨fun w1 h1 K hK => ?_, ?_⟩; · ( go_big_quiet_op; first | exact hK | fail))
  (refine wpAnyP_take0 (i := 2) hP0 hP1 hC0 (by decide) (by rfl) rfl (by kernel_rfl) rfl (by kernel_rfl) (by kernel_rfl) (by kernel_rfl) (fun _ _ _ _ h => h) (by rfl) ?_; apply Exists.intro; refine ⟨fun w1 h1 K hK => ?_, ?_⟩; · ( go_big_quiet_op; first | exact hK | fail))
  (refine wpAnyP_take0 (i := 3) hP0 hP1 hC0 (by decide) (by rfl) rfl (by kernel_rfl) rfl (by kernel_rfl) (by kernel_rfl) (by kernel_rfl) (fun _ _ _ _ h => h) (by rfl) ?_; apply Exists.intro; refine ⟨fun w1 h1 K hK => ?_, ?_⟩; · ( go_big_quiet_op; first | exact hK | fail))
  (refine wpAnyP_take0 (i := 4) hP0 hP1 hC0 (by decide) (by rfl) rfl (by kernel_rfl) rfl (by kernel_rfl) (by kernel_rfl) (by kernel_rfl) (fun _ _ _ _ h => h) (by rfl) ?_; apply Exists.intro; refine ⟨fun w1 h1 K hK => ?_, ?_⟩; · (have q0 : ∀ W : Aft w1, g < W.val.heap.size := fun W => hP01 _ (hP0 _ _ h1 W.below); go_big_quiet_op; first | exact hK | fail))
  (refine wpAnyP_take0 (i := 5) hP0 hP1 hC0 (by decide) (by rfl) rfl (by kernel_rfl) rfl (by kernel_rfl) (by kernel_rfl) (by kernel_rfl) (fun _ _ _ _ h => h) (by rfl) ?_; apply Exists.intro; refine ⟨fun w1 h1 K hK => ?_, ?_⟩; · (have q0 : ∀ W : Aft w1, g < W.val.heap.size := fun W => hP01 _ (hP0 _ _ h1 W.below); go_big_quiet_op; first | exact hK | fail))
  (refine wpAnyP_take0 (i := 6) hP0 hP1 hC0 (by decide) (by rfl) rfl (by kernel_rfl) rfl (by kernel_rfl) (by kernel_rfl) (by kernel_rfl) (fun _ _ _ _ h => h) (by rfl) ?_; apply Exists.intro; refine ⟨fun w1 h1 K hK => ?_, ?_⟩; · (have q0 : ∀ W : Aft w1, W.val.cell? ⟨g, i * 13 + k, none⟩ = some (.int .i64 d) := fun W => (HW.out _ (hP0 _ _ h1 W.below)).cell _ C0.out; go_big_quiet_op; first | exact hK | fail))
  (refine wpAnyP_take0 (i := 7) hP0 hP1 hC0 (by decide) (by rfl) rfl (by kernel_rfl) rfl (by kernel_rfl) (by kernel_rfl) (by kernel_rfl) (fun _ _ _ _ h => h) (by rfl) ?_; apply Exists.intro; refine ⟨fun w1 h1 K hK => ?_, ?_⟩; · ( go_big_quiet_op; first | exact hK | fail))
  (refine wpAnyP_take0 (i := 8) hP0 hP1 hC0 (by decide) (by rfl) rfl (by kernel_rfl) rfl (by kernel_rfl) (by kernel_rfl) (by kernel_rfl) (fun _ _ _ _ h => h) (by rfl) ?_; apply Exists.intro; refine ⟨fun w1 h1 K hK => ?_, ?_⟩; · ( go_big_quiet_op; first | exact hK | fail))
  (refine wpAnyP_take1 (i := 9) hP0 hP1 hP01 hC0 (by decide) rfl (by kernel_rfl) (by kernel_rfl) (by kernel_rfl) (fun _ _ _ _ h => h) (by rfl) ?_; apply Exists.intro; refine ⟨fun w1 h1 K hK => ?_, ?_⟩; · (have q0 : ∀ W : Aft w1, g < W.val.heap.size := fun W => hP1 _ _ h1 W.below; go_big_quiet_op; first | exact hK | fail))
  (refine wpAnyP_one (i := 10) (by kernel_rfl) rfl (by rfl) (fun wa hwa K hK => ?_))
  have hlt := hP01 _ (hP0 _ _ hC0 hwa)
  go_simp
  refine hK _ _ (hP0 _ _ hC0 hwa) ?_
  clear hK K
  (refine wpAnyP_one (i := 11) (by kernel_rfl) rfl (by rfl) (fun wb hwb K hK => ?_))
  have hA := hP0 _ _ (hP0 _ _ hC0 hwa) hwb
  refine wp_store_int (HW.out _ hA) rfl rfl rfl hx (by kernel_rfl) (fun wf zf ho => ?_)
  dsimp only [Act.put]
  rw [C1.out] at zf
  have hBf : But g w wf := (But.of_below hA).trans ⟨ho.os, ho.tape, ho.output, Nat.le_of_eq ho.size.symm, fun k9 _ hne => ho.block k9 hne⟩
  refine hK _ _ zf.lt ?_
  clear hK K
  refine wpAnyP_done (by kernel_rfl) (fun wz hwz => ?_) _
  have hT9 : Tab g (minT D i k n) w wz := by
    have h9 := zf.below hwz
    rw [← HV.out] at h9
    exact ⟨hBf.trans_below hwz, h9⟩
  go_wp2_with fail
  all_goals exact bodyPost_end (results_none rfl _ _ _) rfl ⟨⟨_, rfl⟩, hT9⟩
end Go.Proofs.YtlofopnjjeeehaaDoor
