/- Travel: the ends of a number: span$1 (57), span (44) and turned (40) of a matter. -/
import Derived.Test.YtlofopnjjeeehaaDoorV6
namespace Go.Proofs.YtlofopnjjeeehaaDoor
open Go.RowKit
/-- an end that there is lies in a new box; or there is none -/
def EndAt (f : Option Int) (v : Value) (base : Nat) (w : World) : Prop :=
  match f with
  | none => v = .pointer none
  | some x => ∃ p, v = .pointer (some ⟨p, 0, none⟩) ∧ base ≤ p ∧ Box p #[.int .i64 x] 3 w
theorem EndAt.below {f : Option Int} {v : Value} {base : Nat} {w w' : World} (h : EndAt f v base w) (hb : Below w.heap.size w w') : EndAt f v base w' := by
  cases f with
  | none => exact h
  | some x => obtain ⟨p, h1, h2, h3⟩ := h; exact ⟨p, h1, h2, h3.below hb⟩
theorem EndAt.mono {f : Option Int} {v : Value} {base base' : Nat} {w : World} (h : EndAt f v base w) (hb : base' ≤ base) : EndAt f v base' w := by
  cases f with
  | none => exact h
  | some x => obtain ⟨p, h1, h2, h3⟩ := h; exact ⟨p, h1, Nat.le_trans hb h2, h3⟩
def endO (n y : Int) : Option Int := if n < 1099511627776 then some (n * y) else none
set_option maxHeartbeats 1000000 in
theorem end_any (n y : Int) (w : World) (hy : y = 1 ∨ y = -1) (hn : n < 1099511627776 → -1099511627776 ≤ n) :
    Calls Tryd.prog 34 #[.int .i64 n, .int .i64 y] w fun e w' => ∃ v, e = .returned v ∧ EndAt (endO n y) v w.heap.size w' ∧ Below w.heap.size w w' := by
  go_enter Tryd.func34, Tryd.ntmps34
  by_cases h : n < 1099511627776
  · have h0 := hn h
    have HE := Lib.hid (show endO n y = some (n * y) by unfold endO; rw [if_pos h])
    have hm : -1099511627776 ≤ n * y ∧ n * y ≤ 1099511627776 := by rcases hy with rfl | rfl <;> omega
    obtain ⟨z, hz⟩ : ∃ z, z = n * y := ⟨_, rfl⟩
    rw [← hz] at HE hm
    have HZ := Lib.hid (show wrap64 (n * y) = z by rw [← hz]; unfold wrap64; omega)
    have HM := Lib.hid hm
    clear hz hy hn hm h0
    go_wp2
    go_ret
    refine ⟨_, rfl, ?_, (by repeat' (first | exact Below.refl _ _ | assumption | apply below_drewN | apply Below.drew | (refine Below.alloc ?_ ?_ _) | (refine Below.setCell ?_ ?_ _) | (simp; done) | (simp; omega) | omega))⟩
    rw [HE.out]
    exact ⟨_, rfl, Nat.le_refl _, by rw [← HZ.out]; exact Box.new (g := w.heap.size) #[.int .i64 (wrap64 (n * y))] 3 w rfl⟩
  · have HE := Lib.hid (show endO n y = none by unfold endO; rw [if_neg h])
    have hq : decide (n ≥ 1099511627776) = true := by simp; omega
    clear hy hn
    go_wp2
    go_ret
    refine ⟨_, rfl, ?_, (by repeat' (first | exact Below.refl _ _ | assumption | apply below_drewN | apply Below.drew | (refine Below.alloc ?_ ?_ _) | (refine Below.setCell ?_ ?_ _) | (simp; done) | (simp; omega) | omega))⟩
    rw [HE.out]
    rfl
/-- a table whose bounded numbers are small -/
def Sm (D : T13) : Prop := ∀ i k, i < 13 → k < 13 → D i k < 1099511627776 → -1099511627776 ≤ D i k
set_option maxHeartbeats 4000000 in
theorem span_any (D : T13) (k : Nat) (many : Int) (gT : Nat) (w : World) (hk : k < 13) (hS : Sm D) (hB : Box gT (cells13 D) 63 w) :
    Calls Tryd.prog 20 #[.agg #[.int .i64 k, .int .i64 many], .pointer (some ⟨gT, 0, none⟩)] w fun e w' => ∃ v1 v2, e = .returned (.tuple #[v1, v2]) ∧ EndAt (endO (D 0 k) (-1)) v1 w.heap.size w' ∧ EndAt (endO (D k 0) 1) v2 w.heap.size w' ∧ Below w.heap.size w w' := by
  have HB := Lib.hid hB
  have HS := Lib.hid hS
  have hk0 : (0 : Int) ≤ (k : Int) := by omega
  have hk1 : (k : Int) < 13 := by omega
  clear hB hS
  go_enter Tryd.func20, Tryd.ntmps20
  go_wp2_with fail
  have hb0 := below_alloc1 w (.cells #[.int .i64 k, .int .i64 many] 74)
  have hM := Box.new (g := w.heap.size) #[.int .i64 k, .int .i64 many] 74 w rfl
  obtain ⟨W, hW⟩ : ∃ X, X = w.alloc (.cells #[.int .i64 k, .int .i64 many] 74) := ⟨_, rfl⟩
  rw [← hW] at hb0 hM ⊢
  clear hW
  have HM := Lib.hid hM
  have HL := Lib.hid hb0
  have HBW := Lib.hid (HB.out.below hb0)
  clear hM hb0
  obtain ⟨gm, hgm⟩ : ∃ G, G = w.heap.size := ⟨_, rfl⟩
  rw [← hgm] at HM ⊢
  have HGM := Lib.hid hgm
  clear hgm
  obtain ⟨d1, hd1⟩ : ∃ x, x = D 0 k := ⟨_, rfl⟩
  obtain ⟨d2, hd2⟩ : ∃ x, x = D k 0 := ⟨_, rfl⟩
  have HC1 := Lib.hid (show (cells13 D)[k]? = some (.int .i64 d1) from by have h9 := cells13_get D (i := 0) (k := k) (by omega) hk; rw [Nat.zero_mul, Nat.zero_add] at h9; rw [hd1]; exact h9)
  have HC2 := Lib.hid (show (cells13 D)[k * 13]? = some (.int .i64 d2) from by have h9 := cells13_get D (i := k) (k := 0) hk (by omega); rw [Nat.add_zero] at h9; rw [hd2]; exact h9)
  have HE1 := Lib.hid (show d1 < 1099511627776 → -1099511627776 ≤ d1 from by rw [hd1]; exact HS.out 0 k (by omega) hk)
  have HE2 := Lib.hid (show d2 < 1099511627776 → -1099511627776 ≤ d2 from by rw [hd2]; exact HS.out k 0 hk (by omega))
  have HD1 := Lib.hid hd1
  have HD2 := Lib.hid hd2
  clear hd1 hd2
  have hCC : ∀ A B : World, Below W.heap.size W A → Below A.heap.size A B → Below W.heap.size W B := fun A B h1 h2 => h1.trans (h2.mono h1.size)
  have hC0 : Below W.heap.size W W.drew := (Below.refl _ _).drew
  refine wp_region_garb (fun A => Below W.heap.size W A) (by kernel_rfl) ?_
  (refine wpAnyG_take (i := 0) hCC hC0 rfl (by kernel_rfl) (by kernel_rfl) (by kernel_rfl) (fun _ _ _ _ h => h) (by rfl) ?_; apply Exists.intro; refine ⟨fun w1 h1 K hK => ?_, ?_⟩; · ( go_big_quiet_op; first | exact hK | fail))
  (refine wpAnyG_take (i := 1) hCC hC0 rfl (by kernel_rfl) (by kernel_rfl) (by kernel_rfl) (fun _ _ _ _ h => h) (by rfl) ?_; apply Exists.intro; refine ⟨fun w1 h1 K hK => ?_, ?_⟩; · ( go_big_quiet_op; first | exact hK | fail))
  (refine wpAnyG_take (i := 2) hCC hC0 rfl (by kernel_rfl) (by kernel_rfl) (by kernel_rfl) (fun _ _ _ _ h => h) (by rfl) ?_; apply Exists.intro; refine ⟨fun w1 h1 K hK => ?_, ?_⟩; · (have q0 : ∀ W : Aft w1, gm < W.val.heap.size := fun W => (HM.out.below (hCC _ _ h1 W.below)).lt; go_big_quiet_op; first | exact hK | fail))
  (refine wpAnyG_take (i := 3) hCC hC0 rfl (by kernel_rfl) (by kernel_rfl) (by kernel_rfl) (fun _ _ _ _ h => h) (by rfl) ?_; apply Exists.intro; refine ⟨fun w1 h1 K hK => ?_, ?_⟩; · (have q0 : ∀ W : Aft w1, W.val.cell? ⟨gm, 0, none⟩ = some (.int .i64 k) := fun W => (HM.out.below (hCC _ _ h1 W.below)).cell 0 rfl; go_big_quiet_op; first | exact hK | fail))
  (refine wpAnyG_take (i := 4) hCC hC0 rfl (by kernel_rfl) (by kernel_rfl) (by kernel_rfl) (fun _ _ _ _ h => h) (by rfl) ?_; apply Exists.intro; refine ⟨fun w1 h1 K hK => ?_, ?_⟩; · ( go_big_quiet_op; first | exact hK | fail))
  (refine wpAnyG_take (i := 5) hCC hC0 rfl (by kernel_rfl) (by kernel_rfl) (by kernel_rfl) (fun _ _ _ _ h => h) (by rfl) ?_; apply Exists.intro; refine ⟨fun w1 h1 K hK => ?_, ?_⟩; · (have q0 : ∀ W : Aft w1, gT < W.val.heap.size := fun W => (HBW.out.below (hCC _ _ h1 W.below)).lt; go_big_quiet_op; first | exact hK | fail))
  (refine wpAnyG_take (i := 6) hCC hC0 rfl (by kernel_rfl) (by kernel_rfl) (by kernel_rfl) (fun _ _ _ _ h => h) (by rfl) ?_; apply Exists.intro; refine ⟨fun w1 h1 K hK => ?_, ?_⟩; · (have q0 : ∀ W : Aft w1, gT < W.val.heap.size := fun W => (HBW.out.below (hCC _ _ h1 W.below)).lt; go_big_quiet_op; first | exact hK | fail))
  (refine wpAnyG_take (i := 7) hCC hC0 rfl (by kernel_rfl) (by kernel_rfl) (by kernel_rfl) (fun _ _ _ _ h => h) (by rfl) ?_; apply Exists.intro; refine ⟨fun w1 h1 K hK => ?_, ?_⟩; · (have q0 : ∀ W : Aft w1, W.val.cell? ⟨gT, k, none⟩ = some (.int .i64 d1) := fun W => (HBW.out.below (hCC _ _ h1 W.below)).cell _ HC1.out; go_big_quiet_op; first | exact hK | fail))
  (refine wpAnyG_take (i := 9) hCC hC0 rfl (by kernel_rfl) (by kernel_rfl) (by kernel_rfl) (fun _ _ _ _ h => h) (by rfl) ?_; apply Exists.intro; refine ⟨fun w1 h1 K hK => ?_, ?_⟩; · ( go_big_quiet_op; first | exact hK | fail))
  (refine wpAnyG_take (i := 10) hCC hC0 rfl (by kernel_rfl) (by kernel_rfl) (by kernel_rfl) (fun _ _ _ _ h => h) (by rfl) ?_; apply Exists.intro; refine ⟨fun w1 h1 K hK => ?_, ?_⟩; · ( go_big_quiet_op; first | exact hK | fail))
  (refine wpAnyG_take (i := 11) hCC hC0 rfl (by kernel_rfl) (by kernel_rfl) (by kernel_rfl) (fun _ _ _ _ h => h) (by rfl) ?_; apply Exists.intro; refine ⟨fun w1 h1 K hK => ?_, ?_⟩; · (have q0 : ∀ W : Aft w1, gm < W.val.heap.size := fun W => (HM.out.below (hCC _ _ h1 W.below)).lt; go_big_quiet_op; first | exact hK | fail))
  (refine wpAnyG_take (i := 12) hCC hC0 rfl (by kernel_rfl) (by kernel_rfl) (by kernel_rfl) (fun _ _ _ _ h => h) (by rfl) ?_; apply Exists.intro; refine ⟨fun w1 h1 K hK => ?_, ?_⟩; · (have q0 : ∀ W : Aft w1, W.val.cell? ⟨gm, 0, none⟩ = some (.int .i64 k) := fun W => (HM.out.below (hCC _ _ h1 W.below)).cell 0 rfl; go_big_quiet_op; first | exact hK | fail))
  (refine wpAnyG_take (i := 13) hCC hC0 rfl (by kernel_rfl) (by kernel_rfl) (by kernel_rfl) (fun _ _ _ _ h => h) (by rfl) ?_; apply Exists.intro; refine ⟨fun w1 h1 K hK => ?_, ?_⟩; · ( go_big_quiet_op; first | exact hK | fail))
  (refine wpAnyG_take (i := 14) hCC hC0 rfl (by kernel_rfl) (by kernel_rfl) (by kernel_rfl) (fun _ _ _ _ h => h) (by rfl) ?_; apply Exists.intro; refine ⟨fun w1 h1 K hK => ?_, ?_⟩; · (have q0 : ∀ W : Aft w1, gT < W.val.heap.size := fun W => (HBW.out.below (hCC _ _ h1 W.below)).lt; go_big_quiet_op; first | exact hK | fail))
  (refine wpAnyG_take (i := 15) hCC hC0 rfl (by kernel_rfl) (by kernel_rfl) (by kernel_rfl) (fun _ _ _ _ h => h) (by rfl) ?_; apply Exists.intro; refine ⟨fun w1 h1 K hK => ?_, ?_⟩; · (have q0 : ∀ W : Aft w1, gT < W.val.heap.size := fun W => (HBW.out.below (hCC _ _ h1 W.below)).lt; go_big_quiet_op; first | exact hK | fail))
  (refine wpAnyG_take (i := 16) hCC hC0 rfl (by kernel_rfl) (by kernel_rfl) (by kernel_rfl) (fun _ _ _ _ h => h) (by rfl) ?_; apply Exists.intro; refine ⟨fun w1 h1 K hK => ?_, ?_⟩; · (have q0 : ∀ W : Aft w1, W.val.cell? ⟨gT, k * 13, none⟩ = some (.int .i64 d2) := fun W => (HBW.out.below (hCC _ _ h1 W.below)).cell _ HC2.out; go_big_quiet_op; first | exact hK | fail))
  (refine wpAnyG_one (i := 8) (by kernel_rfl) rfl (by rfl) (fun wa hwa K hK => ?_))
  go_simp
  refine (end_any _ _ _ (.inr rfl) HE1.out).mono ?_
  rintro e wb ⟨v1, rfl, he1, hb1⟩
  have hC1 := hCC _ _ (hCC _ _ hC0 hwa) hb1
  refine hK _ _ hC1 ?_
  clear hK K
  (refine wpAnyG_one (i := 17) (by kernel_rfl) rfl (by rfl) (fun wc hwc K hK => ?_))
  go_simp
  refine (end_any _ _ _ (.inl rfl) HE2.out).mono ?_
  rintro e wd ⟨v2, rfl, he2, hb2⟩
  have hC2 := hCC _ _ (hCC _ _ hC1 hwc) hb2
  refine hK _ _ hC2 ?_
  clear hK K
  (refine wpAnyG_one (i := 18) (by kernel_rfl) rfl (by rfl) (fun we hwe K hK => ?_))
  go_simp
  refine hK _ _ (hCC _ _ hC2 hwe) ?_
  clear hK K
  (refine wpAnyG_one (i := 19) (by kernel_rfl) rfl (by rfl) (fun wf hwf K hK => ?_))
  go_simp
  refine hK _ _ (hCC _ _ (hCC _ _ hC2 hwe) hwf) ?_
  clear hK K
  refine wpAnyG_done (by kernel_rfl) (fun wz hwz => ?_) _
  have hz := hCC _ _ (hCC _ _ (hCC _ _ hC2 hwe) hwf) hwz
  have H1 := Lib.hid (show EndAt (endO (D 0 k) (-1)) v1 w.heap.size wz from by
    rw [← HD1.out]
    exact (((((he1.below hwc).below hb2).below hwe).below hwf).below hwz).mono (Nat.le_trans HL.out.size (hCC _ _ hC0 hwa).size))
  have H2 := Lib.hid (show EndAt (endO (D k 0) 1) v2 w.heap.size wz from by
    rw [← HD2.out]
    exact (((he2.below hwe).below hwf).below hwz).mono (Nat.le_trans HL.out.size (hCC _ _ hC1 hwc).size))
  have HZ := Lib.hid (HL.out.trans (hz.mono HL.out.size))
  clear he1 he2 hwa hwc hwe hwf hwz hC1 hC2 hC0 hCC hb1 hb2 hz
  go_wp2_with fail
  refine bodyPost_ret (v := .tuple #[v1, v2]) (by simp [results, Tryd.results20, go_sem]) rfl ⟨v1, v2, rfl, H1.out, H2.out, HZ.out⟩
def negO (o : Option Int) : Option Int := o.map fun x => -x
/-- both ends turned: none, if one of them is none -/
def turnO (l h : Option Int) : Option Int × Option Int := match l, h with
  | some a, some b => (some (-b), some (-a))
  | _, _ => (none, none)
theorem EndAt.cell {x : Int} {v : Value} {base : Nat} {w : World} (h : EndAt (some x) v base w) : ∃ p, v = .pointer (some ⟨p, 0, none⟩) ∧ base ≤ p ∧ Box p #[.int .i64 x] 3 w := h
end Go.Proofs.YtlofopnjjeeehaaDoor
