/- TopRing's example: awake05 returns true. -/
import Derived.Test.YtlofopnjjeeehaaDoorP8
import Derived.Test.YtlofopnjjeeehaaDoorBnM
namespace Go.Proofs.YtlofopnjjeeehaaDoor
open Go.RowKit
def exB : Bn.Bnch := ⟨false, 10, ⟨0, 0⟩, ⟨0, 20⟩, 3, fun i => if i = 0 then ⟨0, 1000⟩ else if i = 1 then ⟨100, 11000⟩ else ⟨300, 35000⟩⟩
def exC : Bn.Ctch := ⟨⟨10, 10⟩, ⟨110, 111⟩, ⟨0, 0⟩⟩
theorem ex_water : exB.waterR exC = (⟨10180, 10360⟩, 0) := by kernel_rfl
def exR : Rnd := ⟨3, 2, 10, 2, fun i => if i = 0 then ⟨0, 0, 100, 104⟩ else ⟨2, 0, 140, 144⟩⟩
theorem exR_valid : exR.valid = true := by
  refine Rnd.valid_mk (r := exR) (by decide) (by decide) (by decide) (by decide) fun i hi => ?_
  obtain rfl | rfl : i = 0 ∨ i = 1 := by have : i < 2 := hi; omega
  · decide
  · decide
theorem exR_c {off : Int} {x : Nat → Int} : exR.CA off x ↔ (∀ b : Nat, (b : Int) < 3 → (b : Int) ≠ off → x (1 + b) - x 0 ≤ 10 ∧ x 0 - x (1 + b) ≤ 10) ∧ (x 7 - x 1 ≤ 104 ∧ x 1 - x 7 ≤ -100) ∧ (x 7 - x 3 ≤ 144 ∧ x 3 - x 7 ≤ -140) := by
  constructor
  · intro h
    exact ⟨h.1, h.2 0 (by decide) trivial, h.2 1 (by decide) trivial⟩
  · intro h
    refine ⟨h.1, fun k hk _ => ?_⟩
    obtain rfl | rfl : k = 0 ∨ k = 1 := by have : k < 2 := hk; omega
    · exact h.2.1
    · exact h.2.2
theorem exR_all : okT (exR.D (-1)) = false := by
  cases h : okT (exR.D (-1))
  · rfl
  · obtain ⟨x, hx⟩ := (Rnd.D_ok exR_valid (-1)).1 h
    obtain ⟨a, b, c⟩ := exR_c.1 hx
    have a0 := a 0 (by decide) (by decide)
    have a2 := a 2 (by decide) (by decide)
    rw [show 1 + 0 = 1 from rfl] at a0
    rw [show 1 + 2 = 3 from rfl] at a2
    omega
theorem exR_0 : okT (exR.D (0 : Nat)) = true := by
  refine (Rnd.D_ok exR_valid _).2 ⟨fun j => if j = 1 then 40 else if j = 7 then 142 else 0, exR_c.2 ⟨fun b hb hne => ?_, by decide, by decide⟩⟩
  obtain rfl | rfl | rfl : b = 0 ∨ b = 1 ∨ b = 2 := by omega
  · exact absurd rfl hne
  · decide
  · decide
theorem exR_2 : okT (exR.D (2 : Nat)) = true := by
  refine (Rnd.D_ok exR_valid _).2 ⟨fun j => if j = 3 then -40 else if j = 7 then 102 else 0, exR_c.2 ⟨fun b hb hne => ?_, by decide, by decide⟩⟩
  obtain rfl | rfl | rfl : b = 0 ∨ b = 1 ∨ b = 2 := by omega
  · decide
  · decide
  · exact absurd rfl hne
theorem convict_two {r : Rnd} (he : r.err (-1) = 0) (hD : okT (r.D (-1)) = false) (h2 : 2 ≤ (r.susp r.nb.toNat).length) : r.convict = (0, 12) := by
  unfold Rnd.convict
  rw [if_neg (by omega), if_neg (by rw [hD]; decide)]
  exact pickS_two h2
theorem susp_three {r : Rnd} {n : Nat} (hn : n = 3) (h0 : okT (r.D (0 : Nat)) = true) (h2 : okT (r.D (2 : Nat)) = true) : 2 ≤ (r.susp n).length := by
  subst hn
  rw [Rnd.susp_some h2, List.length_append]
  by_cases h : okT (r.D (1 : Nat)) = true
  · rw [Rnd.susp_some h, List.length_append]
    simp
  · rw [Rnd.susp_none (by simpa using h), Rnd.susp_some h0, List.length_append]
    simp
theorem exR_convict : exR.convict = (0, 12) := convict_two (Rnd.err_mk exR_valid (by decide)) exR_all (susp_three rfl exR_0 exR_2)
set_option maxRecDepth 100000 in
set_option maxHeartbeats 4000000 in
theorem awake_any (w : World) (hT : TabAt 1 Lib.deBruijn64tab w) (h1 : 1 < w.heap.size) : Calls Tryd.prog 4 #[] w fun e w' => e = .returned (.bool true) ∧ Below w.heap.size w w' := by
  have HT := Lib.hid hT
  clear hT
  go_enter Tryd.func4, Tryd.ntmps4
  go_upto_region 2 with fail
  have hb1 : Below w.heap.size w ((w.alloc (.cells #[.int .i64 0, .int .i64 1000, .int .i64 100, .int .i64 11000, .int .i64 300, .int .i64 35000] 32)).alloc (.cells #[.bool false, .slice (some ⟨w.heap.size, 0, none⟩) 3 3, .int .i64 10, .int .i64 0, .int .i64 0, .int .i64 0, .int .i64 20] 37)) := (by repeat' (first | exact Below.refl _ _ | assumption | apply below_drewN | apply Below.drew | (refine Below.alloc ?_ ?_ _) | (refine Below.setCell ?_ ?_ _) | (simp; done) | (simp; omega) | omega))
  have zM : Box w.heap.size #[.int .i64 0, .int .i64 1000, .int .i64 100, .int .i64 11000, .int .i64 300, .int .i64 35000] 32 ((w.alloc (.cells #[.int .i64 0, .int .i64 1000, .int .i64 100, .int .i64 11000, .int .i64 300, .int .i64 35000] 32)).alloc (.cells #[.bool false, .slice (some ⟨w.heap.size, 0, none⟩) 3 3, .int .i64 10, .int .i64 0, .int .i64 0, .int .i64 0, .int .i64 20] 37)) := (Box.new _ 32 w rfl).old _
  have zB : Box (w.heap.size + 1) #[.bool false, .slice (some ⟨w.heap.size, 0, none⟩) 3 3, .int .i64 10, .int .i64 0, .int .i64 0, .int .i64 0, .int .i64 20] 37 ((w.alloc (.cells #[.int .i64 0, .int .i64 1000, .int .i64 100, .int .i64 11000, .int .i64 300, .int .i64 35000] 32)).alloc (.cells #[.bool false, .slice (some ⟨w.heap.size, 0, none⟩) 3 3, .int .i64 10, .int .i64 0, .int .i64 0, .int .i64 0, .int .i64 20] 37)) := Box.new _ 37 _ (by simp)
  obtain ⟨W1, hW⟩ : ∃ X, X = ((w.alloc (.cells #[.int .i64 0, .int .i64 1000, .int .i64 100, .int .i64 11000, .int .i64 300, .int .i64 35000] 32)).alloc (.cells #[.bool false, .slice (some ⟨w.heap.size, 0, none⟩) 3 3, .int .i64 10, .int .i64 0, .int .i64 0, .int .i64 0, .int .i64 20] 37)) := ⟨_, rfl⟩
  rw [← hW] at hb1 zM zB ⊢
  clear hW
  have HWt : Hid (Calls Tryd.prog 10 #[.agg #[.bool false, .slice (some ⟨w.heap.size, 0, none⟩) 3 3, .int .i64 10, .int .i64 0, .int .i64 0, .int .i64 0, .int .i64 20], .agg #[.int .i64 10, .int .i64 10, .int .i64 110, .int .i64 111, .int .i64 0, .int .i64 0]] W1 fun e w' => e = .returned (.tuple #[.agg #[.int .i64 10180, .int .i64 10360], .int .i64 0]) ∧ Below W1.heap.size W1 w') := Lib.hid (by
    have h9 := Bn.Water_any exB exC (some ⟨w.heap.size, 0, none⟩) 3 W1 (by decide) (by decide) (fun i hi => by
      have hi : i < 3 := hi
      obtain rfl | rfl | rfl : i = 0 ∨ i = 1 ∨ i = 2 := by omega
      · exact ⟨_, 0, rfl, zM.lt, zM.cell 0 rfl, zM.cell 1 rfl⟩
      · exact ⟨_, 0, rfl, zM.lt, zM.cell 2 rfl, zM.cell 3 rfl⟩
      · exact ⟨_, 0, rfl, zM.lt, zM.cell 4 rfl, zM.cell 5 rfl⟩)
    rw [ex_water] at h9
    exact h9)
  have b0 := zB.cell 0 (v := .bool false) rfl
  have b1 := zB.cell 1 (v := .slice (some ⟨w.heap.size, 0, none⟩) 3 3) rfl
  have b2 := zB.cell 2 (v := .int .i64 10) rfl
  have b3 := zB.cell 3 (v := .int .i64 0) rfl
  have b4 := zB.cell 4 (v := .int .i64 0) rfl
  have b5 := zB.cell 5 (v := .int .i64 0) rfl
  have b6 := zB.cell 6 (v := .int .i64 20) rfl
  have bl := zB.lt
  clear zM zB
  go_wp2_with fail
  refine HWt.out.mono ?_
  rintro e W2 ⟨rfl, hb2⟩
  have hb3 := hb1.trans (hb2.mono hb1.size)
  clear HWt b0 b1 b2 b3 b4 b5 b6 bl hb1 hb2
  go_upto_region 4 with fail
  obtain ⟨gB, hG⟩ : ∃ G, G = W2.heap.size := ⟨_, rfl⟩
  have hs3 := hb3.size
  have hb4 : Below w.heap.size w (((W2.alloc (.cells #[.int .i64 10180, .int .i64 10360] 35)).alloc (.cells #[.int .i64 0, .int .i64 0, .int .i64 100, .int .i64 104, .int .i64 2, .int .i64 0, .int .i64 140, .int .i64 144] 45)).alloc (.cells #[.int .i64 3, .int .i64 2, .int .i64 10, .slice (some ⟨W2.heap.size + 1, 0, none⟩) 2 2] 29)) := (by repeat' (first | exact Below.refl _ _ | assumption | apply below_drewN | apply Below.drew | (refine Below.alloc ?_ ?_ _) | (refine Below.setCell ?_ ?_ _) | (simp; done) | (simp; omega) | omega))
  have zS : Box W2.heap.size #[.int .i64 10180, .int .i64 10360] 35 (((W2.alloc (.cells #[.int .i64 10180, .int .i64 10360] 35)).alloc (.cells #[.int .i64 0, .int .i64 0, .int .i64 100, .int .i64 104, .int .i64 2, .int .i64 0, .int .i64 140, .int .i64 144] 45)).alloc (.cells #[.int .i64 3, .int .i64 2, .int .i64 10, .slice (some ⟨W2.heap.size + 1, 0, none⟩) 2 2] 29)) := ((Box.new _ 35 W2 rfl).old _).old _
  have zT : Box (W2.heap.size + 1) #[.int .i64 0, .int .i64 0, .int .i64 100, .int .i64 104, .int .i64 2, .int .i64 0, .int .i64 140, .int .i64 144] 45 (((W2.alloc (.cells #[.int .i64 10180, .int .i64 10360] 35)).alloc (.cells #[.int .i64 0, .int .i64 0, .int .i64 100, .int .i64 104, .int .i64 2, .int .i64 0, .int .i64 140, .int .i64 144] 45)).alloc (.cells #[.int .i64 3, .int .i64 2, .int .i64 10, .slice (some ⟨W2.heap.size + 1, 0, none⟩) 2 2] 29)) := (Box.new _ 45 _ (by simp)).old _
  have zR : Box (W2.heap.size + 1 + 1) #[.int .i64 3, .int .i64 2, .int .i64 10, .slice (some ⟨W2.heap.size + 1, 0, none⟩) 2 2] 29 (((W2.alloc (.cells #[.int .i64 10180, .int .i64 10360] 35)).alloc (.cells #[.int .i64 0, .int .i64 0, .int .i64 100, .int .i64 104, .int .i64 2, .int .i64 0, .int .i64 140, .int .i64 144] 45)).alloc (.cells #[.int .i64 3, .int .i64 2, .int .i64 10, .slice (some ⟨W2.heap.size + 1, 0, none⟩) 2 2] 29)) := Box.new _ 29 _ (by simp)
  obtain ⟨W3, hW⟩ : ∃ X, X = (((W2.alloc (.cells #[.int .i64 10180, .int .i64 10360] 35)).alloc (.cells #[.int .i64 0, .int .i64 0, .int .i64 100, .int .i64 104, .int .i64 2, .int .i64 0, .int .i64 140, .int .i64 144] 45)).alloc (.cells #[.int .i64 3, .int .i64 2, .int .i64 10, .slice (some ⟨W2.heap.size + 1, 0, none⟩) 2 2] 29)) := ⟨_, rfl⟩
  rw [← hW] at hb4 zS zT zR ⊢
  clear hW hb3 hs3
  rw [← hG] at zS zT zR ⊢
  clear hG
  have HCv : Hid (Calls Tryd.prog 7 #[.agg #[.int .i64 3, .int .i64 2, .int .i64 10, .slice (some ⟨gB + 1, 0, none⟩) 2 2]] W3 fun e w' => e = .returned (.tuple #[.int .i64 0, .int .i64 12]) ∧ Below W3.heap.size W3 w') := Lib.hid (by
    have h9 := convict_any exR (some ⟨gB + 1, 0, none⟩) 2 W3 (by decide) (tab_below HT.out h1 hb4) (Nat.lt_of_lt_of_le h1 hb4.size) (fun i hi => by
      have hi : i < 2 := hi
      obtain rfl | rfl : i = 0 ∨ i = 1 := by omega
      · exact ⟨_, 0, rfl, zT.lt, zT.cell 0 rfl, zT.cell 1 rfl, zT.cell 2 rfl, zT.cell 3 rfl⟩
      · exact ⟨_, 0, rfl, zT.lt, zT.cell 4 rfl, zT.cell 5 rfl, zT.cell 6 rfl, zT.cell 7 rfl⟩)
    rw [exR_convict] at h9
    exact h9)
  have b0 := zR.cell 0 (v := .int .i64 3) rfl
  have b1 := zR.cell 1 (v := .int .i64 2) rfl
  have b2 := zR.cell 2 (v := .int .i64 10) rfl
  have b3 := zR.cell 3 (v := .slice (some ⟨gB + 1, 0, none⟩) 2 2) rfl
  have bl := zR.lt
  clear zT zR
  go_wp2_with fail
  refine HCv.out.mono ?_
  rintro e W4 ⟨rfl, hb5⟩
  have zS5 := zS.below hb5
  have hb6 := hb4.trans (hb5.mono hb4.size)
  clear HCv b0 b1 b2 b3 bl hb4 hb5 zS
  have s0 := zS5.cell 0 (v := .int .i64 10180) rfl
  have s1 := zS5.cell 1 (v := .int .i64 10360) rfl
  have sl := zS5.lt
  clear zS5
  go_wp2_with fail
  go_ret
  exact ⟨rfl, hb6⟩
end Go.Proofs.YtlofopnjjeeehaaDoor
