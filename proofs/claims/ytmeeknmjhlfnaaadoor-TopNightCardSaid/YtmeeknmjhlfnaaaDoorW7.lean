/- The leaks of two streets, made narrower by one another; whether there are such leaks. -/
import Derived.Test.YtmeeknmjhlfnaaaDoorW6
namespace Go.Proofs.YtmeeknmjhlfnaaaDoor
open Go.RowKit
/-- the leaks of the first and the second street, and of both together -/
structure Pr where
  a : Spn
  b : Spn
  c : Spn
abbrev Pr.val (p : Pr) : Value := .agg #[.int .i64 p.a.lo, .int .i64 p.a.hi, .int .i64 p.b.lo, .int .i64 p.b.hi, .int .i64 p.c.lo, .int .i64 p.c.hi]
def Pr.narrow (p : Pr) : Pr := ⟨cutS p.a ⟨p.c.lo - p.b.hi, p.c.hi - p.b.lo⟩, cutS p.b ⟨p.c.lo - p.a.hi, p.c.hi - p.a.lo⟩, p.c⟩
def Pr.can (p : Pr) : Bool := !decide (p.a.hi < p.a.lo) && (!decide (p.b.hi < p.b.lo) && !decide (p.c.hi < p.c.lo))
set_option maxHeartbeats 2000000 in
theorem can_any (p : Pr) (w : World) :
    Calls Tryd.prog 33 #[p.val] w fun e w' => e = .returned (.bool p.can) ∧ Below w.heap.size w w' := by
  go_enter Tryd.func33, Tryd.ntmps33
  have hb0 := below_alloc1 w (.cells #[.int .i64 p.a.lo, .int .i64 p.a.hi, .int .i64 p.b.lo, .int .i64 p.b.hi, .int .i64 p.c.lo, .int .i64 p.c.hi] 67)
  have hB := Box.new (g := w.heap.size) #[.int .i64 p.a.lo, .int .i64 p.a.hi, .int .i64 p.b.lo, .int .i64 p.b.hi, .int .i64 p.c.lo, .int .i64 p.c.hi] 67 w rfl
  have HV := Lib.hid (show p.can = (!decide (p.a.hi < p.a.lo) && (!decide (p.b.hi < p.b.lo) && !decide (p.c.hi < p.c.lo))) from rfl)
  go_upto_region 1 with fail
  obtain ⟨W, hW⟩ : ∃ X, X = w.alloc (.cells #[.int .i64 p.a.lo, .int .i64 p.a.hi, .int .i64 p.b.lo, .int .i64 p.b.hi, .int .i64 p.c.lo, .int .i64 p.c.hi] 67) := ⟨_, rfl⟩
  rw [← hW] at hb0 hB ⊢
  clear hW
  have c0 := hB.cell 0 (v := .int .i64 p.a.lo) rfl
  have c1 := hB.cell 1 (v := .int .i64 p.a.hi) rfl
  have c2 := hB.lt
  go_wp2_with fail
  refine (isEmpty_any p.a _).mono ?_
  rintro e w1 ⟨rfl, hb1⟩
  clear c0 c1 c2
  rcases h1 : decide (p.a.hi < p.a.lo)
  case true =>
    have E := Lib.hid (show p.can = false by rw [HV.out, h1]; rfl)
    clear h1
    go_wp2
    go_ret
    exact ⟨ret_bool (by rw [E.out]), hb0.trans (hb1.mono hb0.size)⟩
  have hb2 := hb0.trans (hb1.mono hb0.size)
  have hB2 := hB.below hb1
  clear hB hb0 hb1
  have c0 := hB2.cell 2 (v := .int .i64 p.b.lo) rfl
  have c1 := hB2.cell 3 (v := .int .i64 p.b.hi) rfl
  have c2 := hB2.lt
  have HV2 := Lib.hid (show p.can = (!decide (p.b.hi < p.b.lo) && !decide (p.c.hi < p.c.lo)) by rw [HV.out, h1]; rfl)
  clear h1
  go_wp2_with fail
  refine (isEmpty_any p.b _).mono ?_
  rintro e w3 ⟨rfl, hb3⟩
  clear c0 c1 c2
  rcases h2 : decide (p.b.hi < p.b.lo)
  case true =>
    have E := Lib.hid (show p.can = false by rw [HV2.out, h2]; rfl)
    clear h2
    go_wp2
    go_ret
    exact ⟨ret_bool (by rw [E.out]), hb2.trans (hb3.mono hb2.size)⟩
  have hb4 := hb2.trans (hb3.mono hb2.size)
  have hB4 := hB2.below hb3
  have c0 := hB4.cell 4 (v := .int .i64 p.c.lo) rfl
  have c1 := hB4.cell 5 (v := .int .i64 p.c.hi) rfl
  have c2 := hB4.lt
  have HV3 := Lib.hid (show p.can = !decide (p.c.hi < p.c.lo) by rw [HV2.out, h2]; rfl)
  clear h2
  go_wp2_with fail
  refine (isEmpty_any p.c _).mono ?_
  rintro e w5 ⟨rfl, hb5⟩
  clear c0 c1 c2
  go_wp2
  go_ret
  exact ⟨ret_bool (by rw [HV3.out]), hb4.trans (hb5.mono hb4.size)⟩
/-- the boxes of narrow: ahead of its stores -/
structure N0 (B g3 g4 : Nat) (w : World) (p : Pr) (A : World) : Prop where
  low : Below w.heap.size w A
  z1 : Box B #[.int .i64 p.a.lo, .int .i64 p.a.hi, .int .i64 p.b.lo, .int .i64 p.b.hi, .int .i64 p.c.lo, .int .i64 p.c.hi] 67 A
  z2 : Box (B + 1) #[.int .i64 0, .int .i64 0, .int .i64 0, .int .i64 0, .int .i64 0, .int .i64 0] 67 A
  z3 : Box g3 #[.int .i64 (p.c.lo - p.b.hi), .int .i64 (p.c.hi - p.b.lo)] 34 A
  z4 : Box g4 #[.int .i64 (p.c.lo - p.a.hi), .int .i64 (p.c.hi - p.a.lo)] 34 A
theorem N0.on {B g3 g4 : Nat} {w : World} {p : Pr} {A A' : World} (h : N0 B g3 g4 w p A) (hb : Below A.heap.size A A') : N0 B g3 g4 w p A' := ⟨h.low.trans (hb.mono h.low.size), h.z1.below hb, h.z2.below hb, h.z3.below hb, h.z4.below hb⟩
/-- and behind the first one -/
structure N1 (B g3 g4 : Nat) (w : World) (p : Pr) (A : World) : Prop where
  low : Below w.heap.size w A
  z1 : ∃ cs, Box B cs 67 A
  z2 : Box (B + 1) #[.int .i64 0, .int .i64 0, .int .i64 0, .int .i64 0, .int .i64 0, .int .i64 0] 67 A
  z3 : Box g3 #[.int .i64 (p.c.lo - p.b.hi), .int .i64 (p.c.hi - p.b.lo)] 34 A
  z4 : Box g4 #[.int .i64 (p.c.lo - p.a.hi), .int .i64 (p.c.hi - p.a.lo)] 34 A
theorem N1.on {B g3 g4 : Nat} {w : World} {p : Pr} {A A' : World} (h : N1 B g3 g4 w p A) (hb : Below A.heap.size A A') : N1 B g3 g4 w p A' := ⟨h.low.trans (hb.mono h.low.size), h.z1.imp fun _ z => z.below hb, h.z2.below hb, h.z3.below hb, h.z4.below hb⟩
theorem N0.weak {B g3 g4 : Nat} {w : World} {p : Pr} {A : World} (h : N0 B g3 g4 w p A) : N1 B g3 g4 w p A := ⟨h.low, ⟨_, h.z1⟩, h.z2, h.z3, h.z4⟩
set_option maxRecDepth 100000 in
set_option maxHeartbeats 16000000 in
theorem narrow_any (p : Pr) (w : World) (hb : ∀ s, s = p.a ∨ s = p.b ∨ s = p.c → -1000000000000 ≤ s.lo ∧ s.lo ≤ 1000000000000 ∧ -1000000000000 ≤ s.hi ∧ s.hi ≤ 1000000000000) :
    Calls Tryd.prog 32 #[p.val] w fun e w' => e = .returned p.narrow.val ∧ Below w.heap.size w w' := by
  have ha := hb p.a (.inl rfl)
  have hbb := hb p.b (.inr (.inl rfl))
  have hc := hb p.c (.inr (.inr rfl))
  clear hb
  have EN := Lib.hid (show p.narrow = ⟨cutS p.a ⟨p.c.lo - p.b.hi, p.c.hi - p.b.lo⟩, cutS p.b ⟨p.c.lo - p.a.hi, p.c.hi - p.a.lo⟩, p.c⟩ from rfl)
  go_enter Tryd.func32, Tryd.ntmps32
  go_wp2_with fail
  have hN : N0 w.heap.size (w.heap.size + 1 + 1) (w.heap.size + 1 + 1 + 1) w p ((((w.alloc (.cells #[.int .i64 p.a.lo, .int .i64 p.a.hi, .int .i64 p.b.lo, .int .i64 p.b.hi, .int .i64 p.c.lo, .int .i64 p.c.hi] 67)).alloc (.cells #[.int .i64 0, .int .i64 0, .int .i64 0, .int .i64 0, .int .i64 0, .int .i64 0] 67)).alloc (.cells #[.int .i64 (p.c.lo - p.b.hi), .int .i64 (p.c.hi - p.b.lo)] 34)).alloc (.cells #[.int .i64 (p.c.lo - p.a.hi), .int .i64 (p.c.hi - p.a.lo)] 34)) := ⟨(by repeat' (first | exact Below.refl _ _ | assumption | apply below_drewN | apply Below.drew | (refine Below.alloc ?_ ?_ _) | (refine Below.setCell ?_ ?_ _) | (simp; done) | (simp; omega) | omega)), ((((Box.new _ 67 w rfl).old _).old _).old _), (((Box.new _ 67 _ (by simp)).old _).old _), ((Box.new _ 34 _ (by simp)).old _), Box.new _ 34 _ (by simp)⟩
  obtain ⟨W, hW⟩ : ∃ X, X = ((((w.alloc (.cells #[.int .i64 p.a.lo, .int .i64 p.a.hi, .int .i64 p.b.lo, .int .i64 p.b.hi, .int .i64 p.c.lo, .int .i64 p.c.hi] 67)).alloc (.cells #[.int .i64 0, .int .i64 0, .int .i64 0, .int .i64 0, .int .i64 0, .int .i64 0] 67)).alloc (.cells #[.int .i64 (p.c.lo - p.b.hi), .int .i64 (p.c.hi - p.b.lo)] 34)).alloc (.cells #[.int .i64 (p.c.lo - p.a.hi), .int .i64 (p.c.hi - p.a.lo)] 34)) := ⟨_, rfl⟩
  rw [← hW] at hN ⊢
  clear hW
  obtain ⟨B, hB⟩ : ∃ B, B = w.heap.size := ⟨_, rfl⟩
  have HBe := Lib.hid hB
  rw [← hB] at hN ⊢
  clear hB
  obtain ⟨g3, hg3⟩ : ∃ g, g = B + 1 + 1 := ⟨_, rfl⟩
  obtain ⟨g4, hg4⟩ : ∃ g, g = B + 1 + 1 + 1 := ⟨_, rfl⟩
  rw [← hg4, ← hg3] at hN ⊢
  have hn3 : g3 ≠ B := by omega
  have hn4 : g4 ≠ B := by omega
  clear hg3 hg4
  have hP0 : ∀ A A', N0 B g3 g4 w p A → Below A.heap.size A A' → N0 B g3 g4 w p A' := fun A A' h hb => h.on hb
  have hP1 : ∀ A A', N1 B g3 g4 w p A → Below A.heap.size A A' → N1 B g3 g4 w p A' := fun A A' h hb => h.on hb
  have hP01 : ∀ A, N0 B g3 g4 w p A → N1 B g3 g4 w p A := fun A h => h.weak
  have hC0 : N0 B g3 g4 w p W.drew := hN.on (Below.refl _ _).drew
  clear hN
  refine wp_region_phase 11 (N0 B g3 g4 w p) (N1 B g3 g4 w p) (by kernel_rfl) ?_
  (refine wpAnyP_take0 (i := 0) hP0 hP1 hC0 (by decide) (by rfl) rfl (by kernel_rfl) rfl (by kernel_rfl) (by kernel_rfl) (by kernel_rfl) (fun _ _ _ _ h => h) (by rfl) ?_; apply Exists.intro; refine ⟨fun w1 h1 K hK => ?_, ?_⟩; · ( go_big_quiet_op; first | exact hK | fail))
  (refine wpAnyP_take0 (i := 1) hP0 hP1 hC0 (by decide) (by rfl) rfl (by kernel_rfl) rfl (by kernel_rfl) (by kernel_rfl) (by kernel_rfl) (fun _ _ _ _ h => h) (by rfl) ?_; apply Exists.intro; refine ⟨fun w1 h1 K hK => ?_, ?_⟩; · (have f := fun W9 : Aft w1 => (hP0 _ _ h1 W9.below).z1; have f0 : ∀ W : Aft w1, W.val.cell? ⟨B, 0, none⟩ = some (.int .i64 p.a.lo) := fun W => (f W).cell 0 rfl; have f1 : ∀ W : Aft w1, W.val.cell? ⟨B, 1, none⟩ = some (.int .i64 p.a.hi) := fun W => (f W).cell 1 rfl; go_big_quiet_op; first | exact hK | fail))
  (refine wpAnyP_take0 (i := 2) hP0 hP1 hC0 (by decide) (by rfl) rfl (by kernel_rfl) rfl (by kernel_rfl) (by kernel_rfl) (by kernel_rfl) (fun _ _ _ _ h => h) (by rfl) ?_; apply Exists.intro; refine ⟨fun w1 h1 K hK => ?_, ?_⟩; · (have f := fun W9 : Aft w1 => (hP0 _ _ h1 W9.below).z3; have f0 : ∀ W : Aft w1, W.val.cell? ⟨g3, 0, none⟩ = some (.int .i64 (p.c.lo - p.b.hi)) := fun W => (f W).cell 0 rfl; have f1 : ∀ W : Aft w1, W.val.cell? ⟨g3, 1, none⟩ = some (.int .i64 (p.c.hi - p.b.lo)) := fun W => (f W).cell 1 rfl; go_big_quiet_op; first | exact hK | fail))
  (refine wpAnyP_take0 (i := 5) hP0 hP1 hC0 (by decide) (by rfl) rfl (by kernel_rfl) rfl (by kernel_rfl) (by kernel_rfl) (by kernel_rfl) (fun _ _ _ _ h => h) (by rfl) ?_; apply Exists.intro; refine ⟨fun w1 h1 K hK => ?_, ?_⟩; · ( go_big_quiet_op; first | exact hK | fail))
  (refine wpAnyP_take0 (i := 6) hP0 hP1 hC0 (by decide) (by rfl) rfl (by kernel_rfl) rfl (by kernel_rfl) (by kernel_rfl) (by kernel_rfl) (fun _ _ _ _ h => h) (by rfl) ?_; apply Exists.intro; refine ⟨fun w1 h1 K hK => ?_, ?_⟩; · (have f := fun W9 : Aft w1 => (hP0 _ _ h1 W9.below).z1; have f2 : ∀ W : Aft w1, W.val.cell? ⟨B, 2, none⟩ = some (.int .i64 p.b.lo) := fun W => (f W).cell 2 rfl; have f3 : ∀ W : Aft w1, W.val.cell? ⟨B, 3, none⟩ = some (.int .i64 p.b.hi) := fun W => (f W).cell 3 rfl; go_big_quiet_op; first | exact hK | fail))
  (refine wpAnyP_take1 (i := 7) hP0 hP1 hP01 hC0 (by decide) rfl (by kernel_rfl) (by kernel_rfl) (by kernel_rfl) (fun _ _ _ _ h => h) (by rfl) ?_; apply Exists.intro; refine ⟨fun w1 h1 K hK => ?_, ?_⟩; · (have f := fun W9 : Aft w1 => (hP1 _ _ h1 W9.below).z4; have f0 : ∀ W : Aft w1, W.val.cell? ⟨g4, 0, none⟩ = some (.int .i64 (p.c.lo - p.a.hi)) := fun W => (f W).cell 0 rfl; have f1 : ∀ W : Aft w1, W.val.cell? ⟨g4, 1, none⟩ = some (.int .i64 (p.c.hi - p.a.lo)) := fun W => (f W).cell 1 rfl; go_big_quiet_op; first | exact hK | fail))
  (refine wpAnyP_two (i := 3) (k := 8) (by kernel_rfl) rfl rfl (by rfl) (by rfl) (fun wa hwa K hK => ?_) (fun wa hwa K hK => ?_))
  · go_simp
    have hbx := hwa.trans ((below_alloc1 wa (.cells #[.int .i64 (p.c.lo - p.b.hi), .int .i64 (p.c.hi - p.b.lo)] 34)).mono hwa.size)
    have hC9 := hP0 _ _ hC0 hbx
    have yF := Box.new (g := wa.heap.size) #[.int .i64 (p.c.lo - p.b.hi), .int .i64 (p.c.hi - p.b.lo)] 34 wa rfl
    refine hK _ _ hC9 ?_
    clear hK K hC0 hwa hbx 
    obtain ⟨gF, hG9⟩ : ∃ g, g = wa.heap.size := ⟨_, rfl⟩
    obtain ⟨XF, hX9⟩ : ∃ X, X = wa.alloc (.cells #[.int .i64 (p.c.lo - p.b.hi), .int .i64 (p.c.hi - p.b.lo)] 34) := ⟨_, rfl⟩
    rw [← hG9] at yF ⊢
    rw [← hX9] at yF hC9  ⊢
    clear hG9 hX9
    have hC0 := hC9
    clear hC9
    have zF := yF
    clear yF
    (refine wpAnyP_two (i := 4) (k := 8) (by kernel_rfl) rfl rfl (by rfl) (by rfl) (fun wa hwa K hK => ?_) (fun wa hwa K hK => ?_))
    · go_simp
      refine (cut_any p.a ⟨p.c.lo - p.b.hi, p.c.hi - p.b.lo⟩ (some ⟨gF, 0, none⟩) 1 _ (fun j hj => ⟨gF, 0, rfl, (zF.below hwa).lt, (by obtain rfl : j = 0 := (by omega); exact (zF.below hwa).cell 0 rfl), (by obtain rfl : j = 0 := (by omega); exact (zF.below hwa).cell 1 rfl)⟩)).mono ?_
      rintro e wb ⟨rfl, hbw⟩
      have hbx := hwa.trans (hbw.mono hwa.size)
      have hC9 := hP0 _ _ hC0 hbx
      have yF := zF.below hbx
      refine hK _ _ hC9 ?_
      clear hK K hC0 hwa hbx hbw zF
      have hC0 := hC9
      clear hC9
      have zF := yF
      clear yF
      (refine wpAnyP_take0 (i := 10) hP0 hP1 hC0 (by decide) (by rfl) rfl (by kernel_rfl) rfl (by kernel_rfl) (by kernel_rfl) (by kernel_rfl) (fun _ _ _ _ h => h) (by rfl) ?_; apply Exists.intro; refine ⟨fun w1 h1 K hK => ?_, ?_⟩; · ( go_big_quiet_op; first | exact hK | fail))
      (refine wpAnyP_one (i := 8) (by kernel_rfl) rfl (by rfl) (fun wa hwa K hK => ?_))
      go_simp
      have hbx := hwa.trans ((below_alloc1 wa (.cells #[.int .i64 (p.c.lo - p.a.hi), .int .i64 (p.c.hi - p.a.lo)] 34)).mono hwa.size)
      have hC9 := hP0 _ _ hC0 hbx
      have yF := zF.below hbx
      have yS := Box.new (g := wa.heap.size) #[.int .i64 (p.c.lo - p.a.hi), .int .i64 (p.c.hi - p.a.lo)] 34 wa rfl
      refine hK _ _ hC9 ?_
      clear hK K hC0 hwa hbx zF
      obtain ⟨gS, hG9⟩ : ∃ g, g = wa.heap.size := ⟨_, rfl⟩
      obtain ⟨XS, hX9⟩ : ∃ X, X = wa.alloc (.cells #[.int .i64 (p.c.lo - p.a.hi), .int .i64 (p.c.hi - p.a.lo)] 34) := ⟨_, rfl⟩
      rw [← hG9] at yS ⊢
      rw [← hX9] at yS hC9 yF ⊢
      clear hG9 hX9
      have hC0 := hC9
      clear hC9
      have zF := yF
      clear yF
      have zS := yS
      clear yS
      (refine wpAnyP_one (i := 9) (by kernel_rfl) rfl (by rfl) (fun wa hwa K hK => ?_))
      go_simp
      refine (cut_any p.b ⟨p.c.lo - p.a.hi, p.c.hi - p.a.lo⟩ (some ⟨gS, 0, none⟩) 1 _ (fun j hj => ⟨gS, 0, rfl, (zS.below hwa).lt, (by obtain rfl : j = 0 := (by omega); exact (zS.below hwa).cell 0 rfl), (by obtain rfl : j = 0 := (by omega); exact (zS.below hwa).cell 1 rfl)⟩)).mono ?_
      rintro e wb ⟨rfl, hbw⟩
      have hbx := hwa.trans (hbw.mono hwa.size)
      have hC9 := hP0 _ _ hC0 hbx
      have yF := zF.below hbx
      have yS := zS.below hbx
      refine hK _ _ hC9 ?_
      clear hK K hC0 hwa hbx hbw zF zS
      have hC0 := hC9
      clear hC9
      have zF := yF
      clear yF
      have zS := yS
      clear yS
      (refine wpAnyP_one (i := 11) (by kernel_rfl) rfl (by rfl) (fun wa hwa K hK => ?_))
      have hC8 := hP0 _ _ hC0 hwa
      refine wp_store_at (hC8.z1) rfl rfl rfl (by simp) (by kernel_rfl) (by simp [Value.oneCell']) (fun ws zs ho => ?_); dsimp only [Act.put]
      have zt : Box B #[.int .i64 (cutS p.a ⟨p.c.lo - p.b.hi, p.c.hi - p.b.lo⟩).lo, .int .i64 (cutS p.a ⟨p.c.lo - p.b.hi, p.c.hi - p.b.lo⟩).hi, .int .i64 p.b.lo, .int .i64 p.b.hi, .int .i64 p.c.lo, .int .i64 p.c.hi] 67 ws := zs
      have hC9 : N1 B g3 g4 w p ws := ⟨hC8.low.trans (ho.below (by have := HBe.out; omega)), ⟨_, zt⟩, ho.box hC8.z2 (by omega), ho.box hC8.z3 hn3, ho.box hC8.z4 hn4⟩
      refine hK _ _ hC9 ?_
      clear hK K hC0 hC8 hwa ho zs
      have hC0 := hC9
      clear hC9
      (refine wpAnyP_take1 (i := 12) hP0 hP1 hP01 hC0 (by decide) rfl (by kernel_rfl) (by kernel_rfl) (by kernel_rfl) (fun _ _ _ _ h => h) (by rfl) ?_; apply Exists.intro; refine ⟨fun w1 h1 K hK => ?_, ?_⟩; · ( go_big_quiet_op; first | exact hK | fail))
      (refine wpAnyP_one (i := 13) (by kernel_rfl) rfl (by rfl) (fun wa hwa K hK => ?_))
      have hC8 := hP1 _ _ hC0 hwa
      refine wp_store_at (zt.below hwa) rfl rfl rfl (by simp) (by kernel_rfl) (by simp [Value.oneCell']) (fun ws zs ho => ?_); dsimp only [Act.put]
      have zu : Box B #[.int .i64 (cutS p.a ⟨p.c.lo - p.b.hi, p.c.hi - p.b.lo⟩).lo, .int .i64 (cutS p.a ⟨p.c.lo - p.b.hi, p.c.hi - p.b.lo⟩).hi, .int .i64 (cutS p.b ⟨p.c.lo - p.a.hi, p.c.hi - p.a.lo⟩).lo, .int .i64 (cutS p.b ⟨p.c.lo - p.a.hi, p.c.hi - p.a.lo⟩).hi, .int .i64 p.c.lo, .int .i64 p.c.hi] 67 ws := zs
      have hC9 : N1 B g3 g4 w p ws := ⟨hC8.low.trans (ho.below (by have := HBe.out; omega)), ⟨_, zu⟩, ho.box hC8.z2 (by omega), ho.box hC8.z3 hn3, ho.box hC8.z4 hn4⟩
      refine hK _ _ hC9 ?_
      clear hK K hC0 hC8 hwa ho zs zt
      refine wpAnyP_done (by kernel_rfl) (fun wz hwz => ?_) _
      have z1 := zu.below hwz
      have hC8 := hP1 _ _ hC9 hwz
      have z2 := hC8.z2
      have hl := hC8.low
      clear hC9 zu hwz hC8 hP0 hP1 hP01
      have d0 := z1.cell 0 (v := .int .i64 (cutS p.a ⟨p.c.lo - p.b.hi, p.c.hi - p.b.lo⟩).lo) rfl
      have d1 := z1.cell 1 (v := .int .i64 (cutS p.a ⟨p.c.lo - p.b.hi, p.c.hi - p.b.lo⟩).hi) rfl
      have d2 := z1.cell 2 (v := .int .i64 (cutS p.b ⟨p.c.lo - p.a.hi, p.c.hi - p.a.lo⟩).lo) rfl
      have d3 := z1.cell 3 (v := .int .i64 (cutS p.b ⟨p.c.lo - p.a.hi, p.c.hi - p.a.lo⟩).hi) rfl
      have d4 := z1.cell 4 (v := .int .i64 p.c.lo) rfl
      have d5 := z1.cell 5 (v := .int .i64 p.c.hi) rfl
      have d6 := z1.lt
      have e0 := z2.cell 0 (v := .int .i64 0) rfl
      have e1 := z2.cell 1 (v := .int .i64 0) rfl
      have e2 := z2.cell 2 (v := .int .i64 0) rfl
      have e3 := z2.cell 3 (v := .int .i64 0) rfl
      have e4 := z2.cell 4 (v := .int .i64 0) rfl
      have e5 := z2.cell 5 (v := .int .i64 0) rfl
      have f0 := z2.frozen 0
      have f1 := z2.frozen 1
      have f2 := z2.frozen 2
      have f3 := z2.frozen 3
      have f4 := z2.frozen 4
      have f5 := z2.frozen 5
      have e6 := z2.lt
      obtain ⟨R1, hR1⟩ : ∃ r, r = cutS p.a ⟨p.c.lo - p.b.hi, p.c.hi - p.b.lo⟩ := ⟨_, rfl⟩
      obtain ⟨R2, hR2⟩ : ∃ r, r = cutS p.b ⟨p.c.lo - p.a.hi, p.c.hi - p.a.lo⟩ := ⟨_, rfl⟩
      rw [← hR1] at d0 d1 z1
      rw [← hR2] at d2 d3 z1
      have EN2 := Lib.hid (show p.narrow = ⟨R1, R2, p.c⟩ by rw [EN.out, hR1, hR2])
      rw [← hR1, ← hR2]
      clear hR1 hR2
      go_wp2_with fail
      have zr : Box (B + 1) #[.int .i64 R1.lo, .int .i64 R1.hi, .int .i64 R2.lo, .int .i64 R2.hi, .int .i64 p.c.lo, .int .i64 p.c.hi] 67 (wz.setCells (B + 1) 0 [.int .i64 R1.lo, .int .i64 R1.hi, .int .i64 R2.lo, .int .i64 R2.hi, .int .i64 p.c.lo, .int .i64 p.c.hi]) := z2.setCells (vs := [.int .i64 R1.lo, .int .i64 R1.hi, .int .i64 R2.lo, .int .i64 R2.hi, .int .i64 p.c.lo, .int .i64 p.c.hi]) (o := 0)
      have hr : Below w.heap.size w (wz.setCells (B + 1) 0 [.int .i64 R1.lo, .int .i64 R1.hi, .int .i64 R2.lo, .int .i64 R2.hi, .int .i64 p.c.lo, .int .i64 p.c.hi]) := hl.trans (((Only.refl (B + 1) wz).setCells (vs := [.int .i64 R1.lo, .int .i64 R1.hi, .int .i64 R2.lo, .int .i64 R2.hi, .int .i64 p.c.lo, .int .i64 p.c.hi]) (o := 0)).below (by have := HBe.out; omega))
      obtain ⟨X, hX⟩ : ∃ X, X = wz.setCells (B + 1) 0 [.int .i64 R1.lo, .int .i64 R1.hi, .int .i64 R2.lo, .int .i64 R2.hi, .int .i64 p.c.lo, .int .i64 p.c.hi] := ⟨_, rfl⟩
      rw [← hX] at zr hr
      have hX2 : X = ((((((wz).setCell ⟨B + 1, 0, none⟩ (.int .i64 R1.lo)).setCell ⟨B + 1, 1, none⟩ (.int .i64 R1.hi)).setCell ⟨B + 1, 2, none⟩ (.int .i64 R2.lo)).setCell ⟨B + 1, 3, none⟩ (.int .i64 R2.hi)).setCell ⟨B + 1, 4, none⟩ (.int .i64 p.c.lo)).setCell ⟨B + 1, 5, none⟩ (.int .i64 p.c.hi) := hX
      rw [← hX2]
      clear hX hX2
      have r0 := zr.cell 0 (v := .int .i64 R1.lo) rfl
      have r1 := zr.cell 1 (v := .int .i64 R1.hi) rfl
      have r2 := zr.cell 2 (v := .int .i64 R2.lo) rfl
      have r3 := zr.cell 3 (v := .int .i64 R2.hi) rfl
      have r4 := zr.cell 4 (v := .int .i64 p.c.lo) rfl
      have r5 := zr.cell 5 (v := .int .i64 p.c.hi) rfl
      refine bodyPost_ret (v := .agg #[.int .i64 R1.lo, .int .i64 R1.hi, .int .i64 R2.lo, .int .i64 R2.hi, .int .i64 p.c.lo, .int .i64 p.c.hi]) (by simp [results, Tryd.results32, go_sem, r0, r1, r2, r3, r4, r5]) rfl ⟨by rw [EN2.out], hr⟩
    · go_simp
      have hbx := hwa.trans ((below_alloc1 wa (.cells #[.int .i64 (p.c.lo - p.a.hi), .int .i64 (p.c.hi - p.a.lo)] 34)).mono hwa.size)
      have hC9 := hP0 _ _ hC0 hbx
      have yF := zF.below hbx
      have yS := Box.new (g := wa.heap.size) #[.int .i64 (p.c.lo - p.a.hi), .int .i64 (p.c.hi - p.a.lo)] 34 wa rfl
      refine hK _ _ hC9 ?_
      clear hK K hC0 hwa hbx zF
      obtain ⟨gS, hG9⟩ : ∃ g, g = wa.heap.size := ⟨_, rfl⟩
      obtain ⟨XS, hX9⟩ : ∃ X, X = wa.alloc (.cells #[.int .i64 (p.c.lo - p.a.hi), .int .i64 (p.c.hi - p.a.lo)] 34) := ⟨_, rfl⟩
      rw [← hG9] at yS ⊢
      rw [← hX9] at yS hC9 yF ⊢
      clear hG9 hX9
      have hC0 := hC9
      clear hC9
      have zF := yF
      clear yF
      have zS := yS
      clear yS
      (refine wpAnyP_one (i := 4) (by kernel_rfl) rfl (by rfl) (fun wa hwa K hK => ?_))
      go_simp
      refine (cut_any p.a ⟨p.c.lo - p.b.hi, p.c.hi - p.b.lo⟩ (some ⟨gF, 0, none⟩) 1 _ (fun j hj => ⟨gF, 0, rfl, (zF.below hwa).lt, (by obtain rfl : j = 0 := (by omega); exact (zF.below hwa).cell 0 rfl), (by obtain rfl : j = 0 := (by omega); exact (zF.below hwa).cell 1 rfl)⟩)).mono ?_
      rintro e wb ⟨rfl, hbw⟩
      have hbx := hwa.trans (hbw.mono hwa.size)
      have hC9 := hP0 _ _ hC0 hbx
      have yF := zF.below hbx
      have yS := zS.below hbx
      refine hK _ _ hC9 ?_
      clear hK K hC0 hwa hbx hbw zF zS
      have hC0 := hC9
      clear hC9
      have zF := yF
      clear yF
      have zS := yS
      clear yS
      (refine wpAnyP_take0 (i := 10) hP0 hP1 hC0 (by decide) (by rfl) rfl (by kernel_rfl) rfl (by kernel_rfl) (by kernel_rfl) (by kernel_rfl) (fun _ _ _ _ h => h) (by rfl) ?_; apply Exists.intro; refine ⟨fun w1 h1 K hK => ?_, ?_⟩; · ( go_big_quiet_op; first | exact hK | fail))
      (refine wpAnyP_one (i := 9) (by kernel_rfl) rfl (by rfl) (fun wa hwa K hK => ?_))
      go_simp
      refine (cut_any p.b ⟨p.c.lo - p.a.hi, p.c.hi - p.a.lo⟩ (some ⟨gS, 0, none⟩) 1 _ (fun j hj => ⟨gS, 0, rfl, (zS.below hwa).lt, (by obtain rfl : j = 0 := (by omega); exact (zS.below hwa).cell 0 rfl), (by obtain rfl : j = 0 := (by omega); exact (zS.below hwa).cell 1 rfl)⟩)).mono ?_
      rintro e wb ⟨rfl, hbw⟩
      have hbx := hwa.trans (hbw.mono hwa.size)
      have hC9 := hP0 _ _ hC0 hbx
      have yF := zF.below hbx
      have yS := zS.below hbx
      refine hK _ _ hC9 ?_
      clear hK K hC0 hwa hbx hbw zF zS
      have hC0 := hC9
      clear hC9
      have zF := yF
      clear yF
      have zS := yS
      clear yS
      (refine wpAnyP_one (i := 11) (by kernel_rfl) rfl (by rfl) (fun wa hwa K hK => ?_))
      have hC8 := hP0 _ _ hC0 hwa
      refine wp_store_at (hC8.z1) rfl rfl rfl (by simp) (by kernel_rfl) (by simp [Value.oneCell']) (fun ws zs ho => ?_); dsimp only [Act.put]
      have zt : Box B #[.int .i64 (cutS p.a ⟨p.c.lo - p.b.hi, p.c.hi - p.b.lo⟩).lo, .int .i64 (cutS p.a ⟨p.c.lo - p.b.hi, p.c.hi - p.b.lo⟩).hi, .int .i64 p.b.lo, .int .i64 p.b.hi, .int .i64 p.c.lo, .int .i64 p.c.hi] 67 ws := zs
      have hC9 : N1 B g3 g4 w p ws := ⟨hC8.low.trans (ho.below (by have := HBe.out; omega)), ⟨_, zt⟩, ho.box hC8.z2 (by omega), ho.box hC8.z3 hn3, ho.box hC8.z4 hn4⟩
      refine hK _ _ hC9 ?_
      clear hK K hC0 hC8 hwa ho zs
      have hC0 := hC9
      clear hC9
      (refine wpAnyP_take1 (i := 12) hP0 hP1 hP01 hC0 (by decide) rfl (by kernel_rfl) (by kernel_rfl) (by kernel_rfl) (fun _ _ _ _ h => h) (by rfl) ?_; apply Exists.intro; refine ⟨fun w1 h1 K hK => ?_, ?_⟩; · ( go_big_quiet_op; first | exact hK | fail))
      (refine wpAnyP_one (i := 13) (by kernel_rfl) rfl (by rfl) (fun wa hwa K hK => ?_))
      have hC8 := hP1 _ _ hC0 hwa
      refine wp_store_at (zt.below hwa) rfl rfl rfl (by simp) (by kernel_rfl) (by simp [Value.oneCell']) (fun ws zs ho => ?_); dsimp only [Act.put]
      have zu : Box B #[.int .i64 (cutS p.a ⟨p.c.lo - p.b.hi, p.c.hi - p.b.lo⟩).lo, .int .i64 (cutS p.a ⟨p.c.lo - p.b.hi, p.c.hi - p.b.lo⟩).hi, .int .i64 (cutS p.b ⟨p.c.lo - p.a.hi, p.c.hi - p.a.lo⟩).lo, .int .i64 (cutS p.b ⟨p.c.lo - p.a.hi, p.c.hi - p.a.lo⟩).hi, .int .i64 p.c.lo, .int .i64 p.c.hi] 67 ws := zs
      have hC9 : N1 B g3 g4 w p ws := ⟨hC8.low.trans (ho.below (by have := HBe.out; omega)), ⟨_, zu⟩, ho.box hC8.z2 (by omega), ho.box hC8.z3 hn3, ho.box hC8.z4 hn4⟩
      refine hK _ _ hC9 ?_
      clear hK K hC0 hC8 hwa ho zs zt
      refine wpAnyP_done (by kernel_rfl) (fun wz hwz => ?_) _
      have z1 := zu.below hwz
      have hC8 := hP1 _ _ hC9 hwz
      have z2 := hC8.z2
      have hl := hC8.low
      clear hC9 zu hwz hC8 hP0 hP1 hP01
      have d0 := z1.cell 0 (v := .int .i64 (cutS p.a ⟨p.c.lo - p.b.hi, p.c.hi - p.b.lo⟩).lo) rfl
      have d1 := z1.cell 1 (v := .int .i64 (cutS p.a ⟨p.c.lo - p.b.hi, p.c.hi - p.b.lo⟩).hi) rfl
      have d2 := z1.cell 2 (v := .int .i64 (cutS p.b ⟨p.c.lo - p.a.hi, p.c.hi - p.a.lo⟩).lo) rfl
      have d3 := z1.cell 3 (v := .int .i64 (cutS p.b ⟨p.c.lo - p.a.hi, p.c.hi - p.a.lo⟩).hi) rfl
      have d4 := z1.cell 4 (v := .int .i64 p.c.lo) rfl
      have d5 := z1.cell 5 (v := .int .i64 p.c.hi) rfl
      have d6 := z1.lt
      have e0 := z2.cell 0 (v := .int .i64 0) rfl
      have e1 := z2.cell 1 (v := .int .i64 0) rfl
      have e2 := z2.cell 2 (v := .int .i64 0) rfl
      have e3 := z2.cell 3 (v := .int .i64 0) rfl
      have e4 := z2.cell 4 (v := .int .i64 0) rfl
      have e5 := z2.cell 5 (v := .int .i64 0) rfl
      have f0 := z2.frozen 0
      have f1 := z2.frozen 1
      have f2 := z2.frozen 2
      have f3 := z2.frozen 3
      have f4 := z2.frozen 4
      have f5 := z2.frozen 5
      have e6 := z2.lt
      obtain ⟨R1, hR1⟩ : ∃ r, r = cutS p.a ⟨p.c.lo - p.b.hi, p.c.hi - p.b.lo⟩ := ⟨_, rfl⟩
      obtain ⟨R2, hR2⟩ : ∃ r, r = cutS p.b ⟨p.c.lo - p.a.hi, p.c.hi - p.a.lo⟩ := ⟨_, rfl⟩
      rw [← hR1] at d0 d1 z1
      rw [← hR2] at d2 d3 z1
      have EN2 := Lib.hid (show p.narrow = ⟨R1, R2, p.c⟩ by rw [EN.out, hR1, hR2])
      rw [← hR1, ← hR2]
      clear hR1 hR2
      go_wp2_with fail
      have zr : Box (B + 1) #[.int .i64 R1.lo, .int .i64 R1.hi, .int .i64 R2.lo, .int .i64 R2.hi, .int .i64 p.c.lo, .int .i64 p.c.hi] 67 (wz.setCells (B + 1) 0 [.int .i64 R1.lo, .int .i64 R1.hi, .int .i64 R2.lo, .int .i64 R2.hi, .int .i64 p.c.lo, .int .i64 p.c.hi]) := z2.setCells (vs := [.int .i64 R1.lo, .int .i64 R1.hi, .int .i64 R2.lo, .int .i64 R2.hi, .int .i64 p.c.lo, .int .i64 p.c.hi]) (o := 0)
      have hr : Below w.heap.size w (wz.setCells (B + 1) 0 [.int .i64 R1.lo, .int .i64 R1.hi, .int .i64 R2.lo, .int .i64 R2.hi, .int .i64 p.c.lo, .int .i64 p.c.hi]) := hl.trans (((Only.refl (B + 1) wz).setCells (vs := [.int .i64 R1.lo, .int .i64 R1.hi, .int .i64 R2.lo, .int .i64 R2.hi, .int .i64 p.c.lo, .int .i64 p.c.hi]) (o := 0)).below (by have := HBe.out; omega))
      obtain ⟨X, hX⟩ : ∃ X, X = wz.setCells (B + 1) 0 [.int .i64 R1.lo, .int .i64 R1.hi, .int .i64 R2.lo, .int .i64 R2.hi, .int .i64 p.c.lo, .int .i64 p.c.hi] := ⟨_, rfl⟩
      rw [← hX] at zr hr
      have hX2 : X = ((((((wz).setCell ⟨B + 1, 0, none⟩ (.int .i64 R1.lo)).setCell ⟨B + 1, 1, none⟩ (.int .i64 R1.hi)).setCell ⟨B + 1, 2, none⟩ (.int .i64 R2.lo)).setCell ⟨B + 1, 3, none⟩ (.int .i64 R2.hi)).setCell ⟨B + 1, 4, none⟩ (.int .i64 p.c.lo)).setCell ⟨B + 1, 5, none⟩ (.int .i64 p.c.hi) := hX
      rw [← hX2]
      clear hX hX2
      have r0 := zr.cell 0 (v := .int .i64 R1.lo) rfl
      have r1 := zr.cell 1 (v := .int .i64 R1.hi) rfl
      have r2 := zr.cell 2 (v := .int .i64 R2.lo) rfl
      have r3 := zr.cell 3 (v := .int .i64 R2.hi) rfl
      have r4 := zr.cell 4 (v := .int .i64 p.c.lo) rfl
      have r5 := zr.cell 5 (v := .int .i64 p.c.hi) rfl
      refine bodyPost_ret (v := .agg #[.int .i64 R1.lo, .int .i64 R1.hi, .int .i64 R2.lo, .int .i64 R2.hi, .int .i64 p.c.lo, .int .i64 p.c.hi]) (by simp [results, Tryd.results32, go_sem, r0, r1, r2, r3, r4, r5]) rfl ⟨by rw [EN2.out], hr⟩
  · go_simp
    have hbx := hwa.trans ((below_alloc1 wa (.cells #[.int .i64 (p.c.lo - p.a.hi), .int .i64 (p.c.hi - p.a.lo)] 34)).mono hwa.size)
    have hC9 := hP0 _ _ hC0 hbx
    have yS := Box.new (g := wa.heap.size) #[.int .i64 (p.c.lo - p.a.hi), .int .i64 (p.c.hi - p.a.lo)] 34 wa rfl
    refine hK _ _ hC9 ?_
    clear hK K hC0 hwa hbx 
    obtain ⟨gS, hG9⟩ : ∃ g, g = wa.heap.size := ⟨_, rfl⟩
    obtain ⟨XS, hX9⟩ : ∃ X, X = wa.alloc (.cells #[.int .i64 (p.c.lo - p.a.hi), .int .i64 (p.c.hi - p.a.lo)] 34) := ⟨_, rfl⟩
    rw [← hG9] at yS ⊢
    rw [← hX9] at yS hC9  ⊢
    clear hG9 hX9
    have hC0 := hC9
    clear hC9
    have zS := yS
    clear yS
    (refine wpAnyP_one (i := 3) (by kernel_rfl) rfl (by rfl) (fun wa hwa K hK => ?_))
    go_simp
    have hbx := hwa.trans ((below_alloc1 wa (.cells #[.int .i64 (p.c.lo - p.b.hi), .int .i64 (p.c.hi - p.b.lo)] 34)).mono hwa.size)
    have hC9 := hP0 _ _ hC0 hbx
    have yS := zS.below hbx
    have yF := Box.new (g := wa.heap.size) #[.int .i64 (p.c.lo - p.b.hi), .int .i64 (p.c.hi - p.b.lo)] 34 wa rfl
    refine hK _ _ hC9 ?_
    clear hK K hC0 hwa hbx zS
    obtain ⟨gF, hG9⟩ : ∃ g, g = wa.heap.size := ⟨_, rfl⟩
    obtain ⟨XF, hX9⟩ : ∃ X, X = wa.alloc (.cells #[.int .i64 (p.c.lo - p.b.hi), .int .i64 (p.c.hi - p.b.lo)] 34) := ⟨_, rfl⟩
    rw [← hG9] at yF ⊢
    rw [← hX9] at yF hC9 yS ⊢
    clear hG9 hX9
    have hC0 := hC9
    clear hC9
    have zS := yS
    clear yS
    have zF := yF
    clear yF
    (refine wpAnyP_one (i := 4) (by kernel_rfl) rfl (by rfl) (fun wa hwa K hK => ?_))
    go_simp
    refine (cut_any p.a ⟨p.c.lo - p.b.hi, p.c.hi - p.b.lo⟩ (some ⟨gF, 0, none⟩) 1 _ (fun j hj => ⟨gF, 0, rfl, (zF.below hwa).lt, (by obtain rfl : j = 0 := (by omega); exact (zF.below hwa).cell 0 rfl), (by obtain rfl : j = 0 := (by omega); exact (zF.below hwa).cell 1 rfl)⟩)).mono ?_
    rintro e wb ⟨rfl, hbw⟩
    have hbx := hwa.trans (hbw.mono hwa.size)
    have hC9 := hP0 _ _ hC0 hbx
    have yS := zS.below hbx
    have yF := zF.below hbx
    refine hK _ _ hC9 ?_
    clear hK K hC0 hwa hbx hbw zS zF
    have hC0 := hC9
    clear hC9
    have zS := yS
    clear yS
    have zF := yF
    clear yF
    (refine wpAnyP_take0 (i := 10) hP0 hP1 hC0 (by decide) (by rfl) rfl (by kernel_rfl) rfl (by kernel_rfl) (by kernel_rfl) (by kernel_rfl) (fun _ _ _ _ h => h) (by rfl) ?_; apply Exists.intro; refine ⟨fun w1 h1 K hK => ?_, ?_⟩; · ( go_big_quiet_op; first | exact hK | fail))
    (refine wpAnyP_one (i := 9) (by kernel_rfl) rfl (by rfl) (fun wa hwa K hK => ?_))
    go_simp
    refine (cut_any p.b ⟨p.c.lo - p.a.hi, p.c.hi - p.a.lo⟩ (some ⟨gS, 0, none⟩) 1 _ (fun j hj => ⟨gS, 0, rfl, (zS.below hwa).lt, (by obtain rfl : j = 0 := (by omega); exact (zS.below hwa).cell 0 rfl), (by obtain rfl : j = 0 := (by omega); exact (zS.below hwa).cell 1 rfl)⟩)).mono ?_
    rintro e wb ⟨rfl, hbw⟩
    have hbx := hwa.trans (hbw.mono hwa.size)
    have hC9 := hP0 _ _ hC0 hbx
    have yS := zS.below hbx
    have yF := zF.below hbx
    refine hK _ _ hC9 ?_
    clear hK K hC0 hwa hbx hbw zS zF
    have hC0 := hC9
    clear hC9
    have zS := yS
    clear yS
    have zF := yF
    clear yF
    (refine wpAnyP_one (i := 11) (by kernel_rfl) rfl (by rfl) (fun wa hwa K hK => ?_))
    have hC8 := hP0 _ _ hC0 hwa
    refine wp_store_at (hC8.z1) rfl rfl rfl (by simp) (by kernel_rfl) (by simp [Value.oneCell']) (fun ws zs ho => ?_); dsimp only [Act.put]
    have zt : Box B #[.int .i64 (cutS p.a ⟨p.c.lo - p.b.hi, p.c.hi - p.b.lo⟩).lo, .int .i64 (cutS p.a ⟨p.c.lo - p.b.hi, p.c.hi - p.b.lo⟩).hi, .int .i64 p.b.lo, .int .i64 p.b.hi, .int .i64 p.c.lo, .int .i64 p.c.hi] 67 ws := zs
    have hC9 : N1 B g3 g4 w p ws := ⟨hC8.low.trans (ho.below (by have := HBe.out; omega)), ⟨_, zt⟩, ho.box hC8.z2 (by omega), ho.box hC8.z3 hn3, ho.box hC8.z4 hn4⟩
    refine hK _ _ hC9 ?_
    clear hK K hC0 hC8 hwa ho zs
    have hC0 := hC9
    clear hC9
    (refine wpAnyP_take1 (i := 12) hP0 hP1 hP01 hC0 (by decide) rfl (by kernel_rfl) (by kernel_rfl) (by kernel_rfl) (fun _ _ _ _ h => h) (by rfl) ?_; apply Exists.intro; refine ⟨fun w1 h1 K hK => ?_, ?_⟩; · ( go_big_quiet_op; first | exact hK | fail))
    (refine wpAnyP_one (i := 13) (by kernel_rfl) rfl (by rfl) (fun wa hwa K hK => ?_))
    have hC8 := hP1 _ _ hC0 hwa
    refine wp_store_at (zt.below hwa) rfl rfl rfl (by simp) (by kernel_rfl) (by simp [Value.oneCell']) (fun ws zs ho => ?_); dsimp only [Act.put]
    have zu : Box B #[.int .i64 (cutS p.a ⟨p.c.lo - p.b.hi, p.c.hi - p.b.lo⟩).lo, .int .i64 (cutS p.a ⟨p.c.lo - p.b.hi, p.c.hi - p.b.lo⟩).hi, .int .i64 (cutS p.b ⟨p.c.lo - p.a.hi, p.c.hi - p.a.lo⟩).lo, .int .i64 (cutS p.b ⟨p.c.lo - p.a.hi, p.c.hi - p.a.lo⟩).hi, .int .i64 p.c.lo, .int .i64 p.c.hi] 67 ws := zs
    have hC9 : N1 B g3 g4 w p ws := ⟨hC8.low.trans (ho.below (by have := HBe.out; omega)), ⟨_, zu⟩, ho.box hC8.z2 (by omega), ho.box hC8.z3 hn3, ho.box hC8.z4 hn4⟩
    refine hK _ _ hC9 ?_
    clear hK K hC0 hC8 hwa ho zs zt
    refine wpAnyP_done (by kernel_rfl) (fun wz hwz => ?_) _
    have z1 := zu.below hwz
    have hC8 := hP1 _ _ hC9 hwz
    have z2 := hC8.z2
    have hl := hC8.low
    clear hC9 zu hwz hC8 hP0 hP1 hP01
    have d0 := z1.cell 0 (v := .int .i64 (cutS p.a ⟨p.c.lo - p.b.hi, p.c.hi - p.b.lo⟩).lo) rfl
    have d1 := z1.cell 1 (v := .int .i64 (cutS p.a ⟨p.c.lo - p.b.hi, p.c.hi - p.b.lo⟩).hi) rfl
    have d2 := z1.cell 2 (v := .int .i64 (cutS p.b ⟨p.c.lo - p.a.hi, p.c.hi - p.a.lo⟩).lo) rfl
    have d3 := z1.cell 3 (v := .int .i64 (cutS p.b ⟨p.c.lo - p.a.hi, p.c.hi - p.a.lo⟩).hi) rfl
    have d4 := z1.cell 4 (v := .int .i64 p.c.lo) rfl
    have d5 := z1.cell 5 (v := .int .i64 p.c.hi) rfl
    have d6 := z1.lt
    have e0 := z2.cell 0 (v := .int .i64 0) rfl
    have e1 := z2.cell 1 (v := .int .i64 0) rfl
    have e2 := z2.cell 2 (v := .int .i64 0) rfl
    have e3 := z2.cell 3 (v := .int .i64 0) rfl
    have e4 := z2.cell 4 (v := .int .i64 0) rfl
    have e5 := z2.cell 5 (v := .int .i64 0) rfl
    have f0 := z2.frozen 0
    have f1 := z2.frozen 1
    have f2 := z2.frozen 2
    have f3 := z2.frozen 3
    have f4 := z2.frozen 4
    have f5 := z2.frozen 5
    have e6 := z2.lt
    obtain ⟨R1, hR1⟩ : ∃ r, r = cutS p.a ⟨p.c.lo - p.b.hi, p.c.hi - p.b.lo⟩ := ⟨_, rfl⟩
    obtain ⟨R2, hR2⟩ : ∃ r, r = cutS p.b ⟨p.c.lo - p.a.hi, p.c.hi - p.a.lo⟩ := ⟨_, rfl⟩
    rw [← hR1] at d0 d1 z1
    rw [← hR2] at d2 d3 z1
    have EN2 := Lib.hid (show p.narrow = ⟨R1, R2, p.c⟩ by rw [EN.out, hR1, hR2])
    rw [← hR1, ← hR2]
    clear hR1 hR2
    go_wp2_with fail
    have zr : Box (B + 1) #[.int .i64 R1.lo, .int .i64 R1.hi, .int .i64 R2.lo, .int .i64 R2.hi, .int .i64 p.c.lo, .int .i64 p.c.hi] 67 (wz.setCells (B + 1) 0 [.int .i64 R1.lo, .int .i64 R1.hi, .int .i64 R2.lo, .int .i64 R2.hi, .int .i64 p.c.lo, .int .i64 p.c.hi]) := z2.setCells (vs := [.int .i64 R1.lo, .int .i64 R1.hi, .int .i64 R2.lo, .int .i64 R2.hi, .int .i64 p.c.lo, .int .i64 p.c.hi]) (o := 0)
    have hr : Below w.heap.size w (wz.setCells (B + 1) 0 [.int .i64 R1.lo, .int .i64 R1.hi, .int .i64 R2.lo, .int .i64 R2.hi, .int .i64 p.c.lo, .int .i64 p.c.hi]) := hl.trans (((Only.refl (B + 1) wz).setCells (vs := [.int .i64 R1.lo, .int .i64 R1.hi, .int .i64 R2.lo, .int .i64 R2.hi, .int .i64 p.c.lo, .int .i64 p.c.hi]) (o := 0)).below (by have := HBe.out; omega))
    obtain ⟨X, hX⟩ : ∃ X, X = wz.setCells (B + 1) 0 [.int .i64 R1.lo, .int .i64 R1.hi, .int .i64 R2.lo, .int .i64 R2.hi, .int .i64 p.c.lo, .int .i64 p.c.hi] := ⟨_, rfl⟩
    rw [← hX] at zr hr
    have hX2 : X = ((((((wz).setCell ⟨B + 1, 0, none⟩ (.int .i64 R1.lo)).setCell ⟨B + 1, 1, none⟩ (.int .i64 R1.hi)).setCell ⟨B + 1, 2, none⟩ (.int .i64 R2.lo)).setCell ⟨B + 1, 3, none⟩ (.int .i64 R2.hi)).setCell ⟨B + 1, 4, none⟩ (.int .i64 p.c.lo)).setCell ⟨B + 1, 5, none⟩ (.int .i64 p.c.hi) := hX
    rw [← hX2]
    clear hX hX2
    have r0 := zr.cell 0 (v := .int .i64 R1.lo) rfl
    have r1 := zr.cell 1 (v := .int .i64 R1.hi) rfl
    have r2 := zr.cell 2 (v := .int .i64 R2.lo) rfl
    have r3 := zr.cell 3 (v := .int .i64 R2.hi) rfl
    have r4 := zr.cell 4 (v := .int .i64 p.c.lo) rfl
    have r5 := zr.cell 5 (v := .int .i64 p.c.hi) rfl
    refine bodyPost_ret (v := .agg #[.int .i64 R1.lo, .int .i64 R1.hi, .int .i64 R2.lo, .int .i64 R2.hi, .int .i64 p.c.lo, .int .i64 p.c.hi]) (by simp [results, Tryd.results32, go_sem, r0, r1, r2, r3, r4, r5]) rfl ⟨by rw [EN2.out], hr⟩
end Go.Proofs.YtmeeknmjhlfnaaaDoor
