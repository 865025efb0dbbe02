/- add takes in what a set that fits says of the streets. -/
import Derived.Test.YtmeeknmjhlfnaaaDoorW10
import Derived.Test.YtmeeknmjhlfnaaaDoorP2
namespace Go.Proofs.YtmeeknmjhlfnaaaDoor
open Go.RowKit
/-- the cells of a verdict -/
abbrev vdCells (so sn : Bool) (c y : Nat) (l : Nat → Spn) : Array Value := #[.bool so, .bool sn, .int .i64 c, .int .i64 y, .int .i64 (l 0).lo, .int .i64 (l 0).hi, .int .i64 (l 1).lo, .int .i64 (l 1).hi, .int .i64 (l 2).lo, .int .i64 (l 2).hi, .int .i64 (l 3).lo, .int .i64 (l 3).hi, .int .i64 (l 4).lo, .int .i64 (l 4).hi, .int .i64 (l 5).lo, .int .i64 (l 5).hi, .int .i64 (l 6).lo, .int .i64 (l 6).hi, .int .i64 (l 7).lo, .int .i64 (l 7).hi, .int .i64 (l 8).lo, .int .i64 (l 8).hi, .int .i64 (l 9).lo, .int .i64 (l 9).hi]
theorem vd_lo (so sn : Bool) (c y : Nat) (l : Nat → Spn) {s : Nat} (hs : s < 10) : (vdCells so sn c y l)[4 + s * 2]? = some (.int .i64 (l s).lo) := by
  rcases (by omega : s = 0 ∨ s = 1 ∨ s = 2 ∨ s = 3 ∨ s = 4 ∨ s = 5 ∨ s = 6 ∨ s = 7 ∨ s = 8 ∨ s = 9) with rfl | rfl | rfl | rfl | rfl | rfl | rfl | rfl | rfl | rfl <;> rfl
theorem vd_hi (so sn : Bool) (c y : Nat) (l : Nat → Spn) {s : Nat} (hs : s < 10) : (vdCells so sn c y l)[4 + s * 2 + 1]? = some (.int .i64 (l s).hi) := by
  rcases (by omega : s = 0 ∨ s = 1 ∨ s = 2 ∨ s = 3 ∨ s = 4 ∨ s = 5 ∨ s = 6 ∨ s = 7 ∨ s = 8 ∨ s = 9) with rfl | rfl | rfl | rfl | rfl | rfl | rfl | rfl | rfl | rfl <;> rfl
theorem vd_set (so sn : Bool) (c y : Nat) (l : Nat → Spn) {s : Nat} (hs : s < 10) (x : Spn) : ((vdCells so sn c y l).setIfInBounds (4 + s * 2) (.int .i64 x.lo)).setIfInBounds (4 + s * 2 + 1) (.int .i64 x.hi) = vdCells so sn c y (fun j => if j = s then x else l j) := by
  rcases (by omega : s = 0 ∨ s = 1 ∨ s = 2 ∨ s = 3 ∨ s = 4 ∨ s = 5 ∨ s = 6 ∨ s = 7 ∨ s = 8 ∨ s = 9) with rfl | rfl | rfl | rfl | rfl | rfl | rfl | rfl | rfl | rfl <;> simp [vdCells]
/-- what add's closure reads and writes: the guess, the place of the verdict, the verdict; all else that is old lies as it lay -/
structure Ad (B gg gb gv : Nat) (g : Gs) (so sn : Bool) (c y : Nat) (l : Nat → Spn) (w W : World) : Prop where
  low : Same (fun b => b < B ∧ b ≠ gv) w W
  hg : Box gg #[.int .i64 g.p.a.lo, .int .i64 g.p.a.hi, .int .i64 g.p.b.lo, .int .i64 g.p.b.hi, .int .i64 g.p.c.lo, .int .i64 g.p.c.hi, .int .i64 (g.x : Nat), .int .i64 (sizeN g.x : Nat)] 69 W
  hb : Box gb #[.pointer (some ⟨gv, 0, none⟩)] 51 W
  hv : Box gv (vdCells so sn c y l) 56 W
theorem Box.same {g : Nat} {cs : Array Value} {t : TypeId} {p : Nat → Prop} {w w' : World} (h : Box g cs t w) (hs : Same p w w') (hp : p g) : Box g cs t w' := ⟨(hs.block g h.lt hp).trans h.row⟩
set_option maxRecDepth 100000 in
set_option maxHeartbeats 4000000 in
theorem add1_any (B gg gb gv : Nat) (g : Gs) (so sn : Bool) (c y : Nat) (l : Nat → Spn) (p s : Nat) (w W : World) (h : Ad B gg gb gv g so sn c y l w W) (hp : p < 2) (hs : s < 10) (hc : c < 1024) (n1 : gg ≠ gv) (n2 : gb ≠ gv) :
    Calls Tryd.prog 27 #[.int .i64 (p : Nat), .int .i64 (s : Nat), .pointer (some ⟨gg, 0, none⟩), .pointer (some ⟨gb, 0, none⟩)] W fun e W' => (∃ v, e = .returned v) ∧ Ad B gg gb gv g so sn c y (leak1 g c l p s) w W' := by
  have HH := Lib.hid h
  have N1 := Lib.hid n1
  have N2 := Lib.hid n2
  have hbit := bit_one (s := (c : Int)) (i := s) (by omega) (by simpa using hc)
  simp only [Int.toNat_natCast] at hbit
  have c0 := h.hg.cell 0 (v := .int .i64 g.p.a.lo) rfl
  have c1 := h.hg.cell 1 (v := .int .i64 g.p.a.hi) rfl
  have c2 := h.hg.cell 2 (v := .int .i64 g.p.b.lo) rfl
  have c3 := h.hg.cell 3 (v := .int .i64 g.p.b.hi) rfl
  have c4 := h.hb.cell 0 (v := .pointer (some ⟨gv, 0, none⟩)) rfl
  have c5 := h.hv.cell 2 (v := .int .i64 (c : Nat)) rfl
  have c6 := h.hv.cell (4 + s * 2) (vd_lo _ _ _ _ _ hs)
  have c7 := h.hv.cell (4 + s * 2 + 1) (vd_hi _ _ _ _ _ hs)
  have c8 := h.hg.lt
  have c9 := h.hb.lt
  have c10 := h.hv.lt
  clear h n1 n2
  obtain ⟨sp, hsp⟩ : ∃ sp : Spn, sp = if p = 0 then g.p.a else g.p.b := ⟨_, rfl⟩
  have EL := Lib.hid (show leak1 g c l p s = fun j => if j = s then if hasB c s then ⟨min sp.lo (l s).lo, max sp.hi (l s).hi⟩ else sp else l j by rw [hsp]; rfl)
  have xp : ∀ w : World, (Instr.index 77 (.agg #[.int .i64 g.p.a.lo, .int .i64 g.p.a.hi, .int .i64 g.p.b.lo, .int .i64 g.p.b.hi]) (.int .i64 (p : Nat))).run Tryd.prog w = .ok (.agg #[.int .i64 sp.lo, .int .i64 sp.hi]) w := fun _ => by
    rcases (by omega : p = 0 ∨ p = 1) with rfl | rfl <;> rw [hsp] <;> kernel_rfl
  clear hsp
  go_enter Tryd.func27, Tryd.ntmps27
  cases hh : hasB c s
  · rw [hh] at hbit EL
    go_upto_region 3 with fail
    have z6 := Box.new (g := W.heap.size) #[.int .i64 sp.lo, .int .i64 sp.hi] 34 W rfl
    have hb3 : Below W.heap.size W (W.alloc (.cells #[.int .i64 sp.lo, .int .i64 sp.hi] 34)) := (by repeat' (first | exact Below.refl _ _ | assumption | apply below_drewN | apply Below.drew | (refine Below.alloc ?_ ?_ _) | (refine Below.setCell ?_ ?_ _) | (simp; done) | (simp; omega) | omega))
    obtain ⟨g6, hg6⟩ : ∃ n, n = W.heap.size := ⟨_, rfl⟩
    obtain ⟨W3, hW3⟩ : ∃ X, X = W.alloc (.cells #[.int .i64 sp.lo, .int .i64 sp.hi] 34) := ⟨_, rfl⟩
    rw [← hW3] at z6 hb3 ⊢
    rw [← hg6] at z6 ⊢
    have HG6 := Lib.hid (show W.heap.size ≤ g6 by omega)
    clear hW3 hg6
    obtain ⟨sq, hsq⟩ : ∃ sq, sq = sp := ⟨_, rfl⟩
    rw [← hsq] at z6 EL ⊢
    have EQ := Lib.hid (show leak1 g c l p s = fun j => if j = s then sq else l j from EL.out)
    clear hsq
    have ZB := HH.out.hb.below hb3
    have ZV := HH.out.hv.below hb3
    have hCC : ∀ A B : World, Same (fun b => b < W3.heap.size ∧ b ≠ gv) W3 A → Below A.heap.size A B → Same (fun b => b < W3.heap.size ∧ b ≠ gv) W3 B := fun A B h1 h2 => h1.trans (Same.of_below h2 fun _ hk _ => hk)
    have hC0 : Same (fun b => b < W3.heap.size ∧ b ≠ gv) W3 W3.drew := (Same.refl _ _).drew
    have n6 : g6 ≠ gv := fun e => by have := HH.out.hv.lt; have := HG6.out; omega
    refine wp_region_garb (Same (fun b => b < W3.heap.size ∧ b ≠ gv) W3) (by kernel_rfl) ?_
    (refine wpAnyG_take (i := 0) hCC hC0 rfl (by kernel_rfl) (by kernel_rfl) (by kernel_rfl) (fun _ _ _ _ h => h) (by rfl) ?_; apply Exists.intro; refine ⟨fun w1 h1 K hK => ?_, ?_⟩; · (have f0 : ∀ W : Aft w1, W.val.cell? ⟨gb, 0, none⟩ = some (.pointer (some ⟨gv, 0, none⟩)) := fun W => (ZB.same (hCC _ _ h1 W.below) ⟨ZB.lt, N2.out⟩).cell 0 rfl; go_big_quiet_op; first | exact hK | fail))
    (refine wpAnyG_take (i := 1) hCC hC0 rfl (by kernel_rfl) (by kernel_rfl) (by kernel_rfl) (fun _ _ _ _ h => h) (by rfl) ?_; apply Exists.intro; refine ⟨fun w1 h1 K hK => ?_, ?_⟩; · ( go_big_quiet_op; first | exact hK | fail))
    (refine wpAnyG_take (i := 2) hCC hC0 rfl (by kernel_rfl) (by kernel_rfl) (by kernel_rfl) (fun _ _ _ _ h => h) (by rfl) ?_; apply Exists.intro; refine ⟨fun w1 h1 K hK => ?_, ?_⟩; · (have f := fun W : Aft w1 => z6.same (hCC _ _ h1 W.below) ⟨z6.lt, n6⟩; have f0 : ∀ W : Aft w1, W.val.cell? ⟨g6, 0, none⟩ = some (.int .i64 sq.lo) := fun W => (f W).cell 0 rfl; have f1 : ∀ W : Aft w1, W.val.cell? ⟨g6, 1, none⟩ = some (.int .i64 sq.hi) := fun W => (f W).cell 1 rfl; go_big_quiet_op; first | exact hK | fail))
    (refine wpAnyG_take (i := 3) hCC hC0 rfl (by kernel_rfl) (by kernel_rfl) (by kernel_rfl) (fun _ _ _ _ h => h) (by rfl) ?_; apply Exists.intro; refine ⟨fun w1 h1 K hK => ?_, ?_⟩; · (have f0 : ∀ W : Aft w1, gv < W.val.heap.size := fun W => Nat.lt_of_lt_of_le ZV.lt (hCC _ _ h1 W.below).size; go_big_quiet_op; first | exact hK | fail))
    (refine wpAnyG_take (i := 4) hCC hC0 rfl (by kernel_rfl) (by kernel_rfl) (by kernel_rfl) (fun _ _ _ _ h => h) (by rfl) ?_; apply Exists.intro; refine ⟨fun w1 h1 K hK => ?_, ?_⟩; · ( go_big_quiet_op; first | exact hK | fail))
    (refine wpAnyG_take (i := 5) hCC hC0 rfl (by kernel_rfl) (by kernel_rfl) (by kernel_rfl) (fun _ _ _ _ h => h) (by rfl) ?_; apply Exists.intro; refine ⟨fun w1 h1 K hK => ?_, ?_⟩; · ( go_big_quiet_op; first | exact hK | fail))
    (refine wpAnyG_one (i := 6) (by kernel_rfl) rfl (by rfl) (fun wa hwa K hK => ?_))
    refine wp_store_at (ZV.drew.below hwa) rfl rfl rfl (by simp; omega) (by kernel_rfl) (by simp [Value.oneCell']) (fun ws zs ho => ?_)
    dsimp only [Act.put]
    have hS9 : Same (fun b => b < W3.heap.size ∧ b ≠ gv) W3 ws := (hCC _ _ hC0 hwa).trans ⟨ho.os, ho.tape, ho.output, Nat.le_of_eq ho.size.symm, fun b _ hp => ho.block b hp.2⟩
    refine hK _ _ hS9 ?_
    refine wpAnyG_done (by kernel_rfl) (fun wz hwz => ?_) _
    have hS := hCC _ _ hS9 hwz
    have zv := zs.below hwz
    refine bodyPost_end (results_none rfl _ _ _) rfl ⟨⟨_, rfl⟩, ?_⟩
    rw [EQ.out]
    refine ⟨HH.out.low.trans ((Same.of_below hb3 fun _ hk _ => hk).trans (hS.mono fun k h1 h2 => ⟨h1, h2.2⟩)), (HH.out.hg.below hb3).same hS ⟨(HH.out.hg.below hb3).lt, N1.out⟩, ZB.same hS ⟨ZB.lt, N2.out⟩, ?_⟩
    have e5 := vd_set so sn c y l hs sq
    have zv2 : Box gv (((vdCells so sn c y l).setIfInBounds (4 + s * 2) (.int .i64 sq.lo)).setIfInBounds (4 + s * 2 + 1) (.int .i64 sq.hi)) 56 wz := zv
    rw [e5] at zv2
    exact zv2
  · rw [hh] at hbit EL
    go_upto_region 2 with fail
    have z6 := Box.new (g := W.heap.size) #[.int .i64 sp.lo, .int .i64 sp.hi] 34 W rfl
    have hb3 : Below W.heap.size W (W.alloc (.cells #[.int .i64 sp.lo, .int .i64 sp.hi] 34)) := (by repeat' (first | exact Below.refl _ _ | assumption | apply below_drewN | apply Below.drew | (refine Below.alloc ?_ ?_ _) | (refine Below.setCell ?_ ?_ _) | (simp; done) | (simp; omega) | omega))
    obtain ⟨g6, hg6⟩ : ∃ n, n = W.heap.size := ⟨_, rfl⟩
    obtain ⟨W3, hW3⟩ : ∃ X, X = W.alloc (.cells #[.int .i64 sp.lo, .int .i64 sp.hi] 34) := ⟨_, rfl⟩
    rw [← hW3] at z6 hb3 ⊢
    rw [← hg6] at z6 ⊢
    have HG6 := Lib.hid (show W.heap.size ≤ g6 by omega)
    clear hW3 hg6
    have ZB := HH.out.hb.below hb3
    have ZV := HH.out.hv.below hb3
    have hP0 : ∀ A B : World, Below W3.heap.size W3 A → Below A.heap.size A B → Below W3.heap.size W3 B := fun A B h1 h2 => h1.trans (h2.mono h1.size)
    have hP1 : ∀ A B : World, True → Below A.heap.size A B → True := fun _ _ _ _ => trivial
    have hC0 : Below W3.heap.size W3 W3.drew := (Below.refl _ _).drew
    refine wp_region_phase 21 (Below W3.heap.size W3) (fun _ => True) (by kernel_rfl) ?_
    (refine wpAnyP_take0 (i := 0) hP0 hP1 hC0 (by decide) (by rfl) rfl (by kernel_rfl) rfl (by kernel_rfl) (by kernel_rfl) (by kernel_rfl) (fun _ _ _ _ h => h) (by rfl) ?_; apply Exists.intro; refine ⟨fun w1 h1 K hK => ?_, ?_⟩; · ( go_big_quiet_op; first | exact hK | fail))
    (refine wpAnyP_take0 (i := 1) hP0 hP1 hC0 (by decide) (by rfl) rfl (by kernel_rfl) rfl (by kernel_rfl) (by kernel_rfl) (by kernel_rfl) (fun _ _ _ _ h => h) (by rfl) ?_; apply Exists.intro; refine ⟨fun w1 h1 K hK => ?_, ?_⟩; · (have f0 : ∀ W : Aft w1, W.val.cell? ⟨g6, 0, none⟩ = some (.int .i64 sp.lo) := fun W => (z6.below (hP0 _ _ h1 W.below)).cell 0 rfl; go_big_quiet_op; first | exact hK | fail))
    (refine wpAnyP_take0 (i := 2) hP0 hP1 hC0 (by decide) (by rfl) rfl (by kernel_rfl) rfl (by kernel_rfl) (by kernel_rfl) (by kernel_rfl) (fun _ _ _ _ h => h) (by rfl) ?_; apply Exists.intro; refine ⟨fun w1 h1 K hK => ?_, ?_⟩; · (have f0 : ∀ W : Aft w1, W.val.cell? ⟨gb, 0, none⟩ = some (.pointer (some ⟨gv, 0, none⟩)) := fun W => (ZB.below (hP0 _ _ h1 W.below)).cell 0 rfl; go_big_quiet_op; first | exact hK | fail))
    (refine wpAnyP_take0 (i := 3) hP0 hP1 hC0 (by decide) (by rfl) rfl (by kernel_rfl) rfl (by kernel_rfl) (by kernel_rfl) (by kernel_rfl) (fun _ _ _ _ h => h) (by rfl) ?_; apply Exists.intro; refine ⟨fun w1 h1 K hK => ?_, ?_⟩; · ( go_big_quiet_op; first | exact hK | fail))
    (refine wpAnyP_take0 (i := 4) hP0 hP1 hC0 (by decide) (by rfl) rfl (by kernel_rfl) rfl (by kernel_rfl) (by kernel_rfl) (by kernel_rfl) (fun _ _ _ _ h => h) (by rfl) ?_; apply Exists.intro; refine ⟨fun w1 h1 K hK => ?_, ?_⟩; · (have f0 : ∀ W : Aft w1, gv < W.val.heap.size := fun W => (ZV.below (hP0 _ _ h1 W.below)).lt; go_big_quiet_op; first | exact hK | fail))
    (refine wpAnyP_take0 (i := 5) hP0 hP1 hC0 (by decide) (by rfl) rfl (by kernel_rfl) rfl (by kernel_rfl) (by kernel_rfl) (by kernel_rfl) (fun _ _ _ _ h => h) (by rfl) ?_; apply Exists.intro; refine ⟨fun w1 h1 K hK => ?_, ?_⟩; · ( go_big_quiet_op; first | exact hK | fail))
    (refine wpAnyP_take0 (i := 6) hP0 hP1 hC0 (by decide) (by rfl) rfl (by kernel_rfl) rfl (by kernel_rfl) (by kernel_rfl) (by kernel_rfl) (fun _ _ _ _ h => h) (by rfl) ?_; apply Exists.intro; refine ⟨fun w1 h1 K hK => ?_, ?_⟩; · ( go_big_quiet_op; first | exact hK | fail))
    (refine wpAnyP_take0 (i := 7) hP0 hP1 hC0 (by decide) (by rfl) rfl (by kernel_rfl) rfl (by kernel_rfl) (by kernel_rfl) (by kernel_rfl) (fun _ _ _ _ h => h) (by rfl) ?_; apply Exists.intro; refine ⟨fun w1 h1 K hK => ?_, ?_⟩; · ( go_big_quiet_op; first | exact hK | fail))
    (refine wpAnyP_take0 (i := 8) hP0 hP1 hC0 (by decide) (by rfl) rfl (by kernel_rfl) rfl (by kernel_rfl) (by kernel_rfl) (by kernel_rfl) (fun _ _ _ _ h => h) (by rfl) ?_; apply Exists.intro; refine ⟨fun w1 h1 K hK => ?_, ?_⟩; · (have f0 : ∀ W : Aft w1, W.val.cell? ⟨gv, 4 + s * 2, none⟩ = some (.int .i64 (l s).lo) := fun W => (ZV.below (hP0 _ _ h1 W.below)).cell _ (vd_lo _ _ _ _ _ hs); go_big_quiet_op; first | exact hK | fail))
    (refine wpAnyP_take0 (i := 9) hP0 hP1 hC0 (by decide) (by rfl) rfl (by kernel_rfl) rfl (by kernel_rfl) (by kernel_rfl) (by kernel_rfl) (fun _ _ _ _ h => h) (by rfl) ?_; apply Exists.intro; refine ⟨fun w1 h1 K hK => ?_, ?_⟩; · ( go_big_quiet_op; first | exact hK | fail))
    (refine wpAnyP_take0 (i := 10) hP0 hP1 hC0 (by decide) (by rfl) rfl (by kernel_rfl) rfl (by kernel_rfl) (by kernel_rfl) (by kernel_rfl) (fun _ _ _ _ h => h) (by rfl) ?_; apply Exists.intro; refine ⟨fun w1 h1 K hK => ?_, ?_⟩; · ( go_big_quiet_op; first | exact hK | fail))
    (refine wpAnyP_take0 (i := 11) hP0 hP1 hC0 (by decide) (by rfl) rfl (by kernel_rfl) rfl (by kernel_rfl) (by kernel_rfl) (by kernel_rfl) (fun _ _ _ _ h => h) (by rfl) ?_; apply Exists.intro; refine ⟨fun w1 h1 K hK => ?_, ?_⟩; · (have f0 : ∀ W : Aft w1, W.val.cell? ⟨g6, 1, none⟩ = some (.int .i64 sp.hi) := fun W => (z6.below (hP0 _ _ h1 W.below)).cell 1 rfl; go_big_quiet_op; first | exact hK | fail))
    (refine wpAnyP_take0 (i := 12) hP0 hP1 hC0 (by decide) (by rfl) rfl (by kernel_rfl) rfl (by kernel_rfl) (by kernel_rfl) (by kernel_rfl) (fun _ _ _ _ h => h) (by rfl) ?_; apply Exists.intro; refine ⟨fun w1 h1 K hK => ?_, ?_⟩; · (have f0 : ∀ W : Aft w1, W.val.cell? ⟨gb, 0, none⟩ = some (.pointer (some ⟨gv, 0, none⟩)) := fun W => (ZB.below (hP0 _ _ h1 W.below)).cell 0 rfl; go_big_quiet_op; first | exact hK | fail))
    (refine wpAnyP_take0 (i := 13) hP0 hP1 hC0 (by decide) (by rfl) rfl (by kernel_rfl) rfl (by kernel_rfl) (by kernel_rfl) (by kernel_rfl) (fun _ _ _ _ h => h) (by rfl) ?_; apply Exists.intro; refine ⟨fun w1 h1 K hK => ?_, ?_⟩; · ( go_big_quiet_op; first | exact hK | fail))
    (refine wpAnyP_take0 (i := 14) hP0 hP1 hC0 (by decide) (by rfl) rfl (by kernel_rfl) rfl (by kernel_rfl) (by kernel_rfl) (by kernel_rfl) (fun _ _ _ _ h => h) (by rfl) ?_; apply Exists.intro; refine ⟨fun w1 h1 K hK => ?_, ?_⟩; · (have f0 : ∀ W : Aft w1, gv < W.val.heap.size := fun W => (ZV.below (hP0 _ _ h1 W.below)).lt; go_big_quiet_op; first | exact hK | fail))
    (refine wpAnyP_take0 (i := 15) hP0 hP1 hC0 (by decide) (by rfl) rfl (by kernel_rfl) rfl (by kernel_rfl) (by kernel_rfl) (by kernel_rfl) (fun _ _ _ _ h => h) (by rfl) ?_; apply Exists.intro; refine ⟨fun w1 h1 K hK => ?_, ?_⟩; · ( go_big_quiet_op; first | exact hK | fail))
    (refine wpAnyP_take0 (i := 16) hP0 hP1 hC0 (by decide) (by rfl) rfl (by kernel_rfl) rfl (by kernel_rfl) (by kernel_rfl) (by kernel_rfl) (fun _ _ _ _ h => h) (by rfl) ?_; apply Exists.intro; refine ⟨fun w1 h1 K hK => ?_, ?_⟩; · ( go_big_quiet_op; first | exact hK | fail))
    (refine wpAnyP_take0 (i := 17) hP0 hP1 hC0 (by decide) (by rfl) rfl (by kernel_rfl) rfl (by kernel_rfl) (by kernel_rfl) (by kernel_rfl) (fun _ _ _ _ h => h) (by rfl) ?_; apply Exists.intro; refine ⟨fun w1 h1 K hK => ?_, ?_⟩; · ( go_big_quiet_op; first | exact hK | fail))
    (refine wpAnyP_take0 (i := 18) hP0 hP1 hC0 (by decide) (by rfl) rfl (by kernel_rfl) rfl (by kernel_rfl) (by kernel_rfl) (by kernel_rfl) (fun _ _ _ _ h => h) (by rfl) ?_; apply Exists.intro; refine ⟨fun w1 h1 K hK => ?_, ?_⟩; · (have f0 : ∀ W : Aft w1, W.val.cell? ⟨gv, 4 + s * 2 + 1, none⟩ = some (.int .i64 (l s).hi) := fun W => (ZV.below (hP0 _ _ h1 W.below)).cell _ (vd_hi _ _ _ _ _ hs); go_big_quiet_op; first | exact hK | fail))
    (refine wpAnyP_take0 (i := 19) hP0 hP1 hC0 (by decide) (by rfl) rfl (by kernel_rfl) rfl (by kernel_rfl) (by kernel_rfl) (by kernel_rfl) (fun _ _ _ _ h => h) (by rfl) ?_; apply Exists.intro; refine ⟨fun w1 h1 K hK => ?_, ?_⟩; · ( go_big_quiet_op; first | exact hK | fail))
    (refine wpAnyP_take0 (i := 20) hP0 hP1 hC0 (by decide) (by rfl) rfl (by kernel_rfl) rfl (by kernel_rfl) (by kernel_rfl) (by kernel_rfl) (fun _ _ _ _ h => h) (by rfl) ?_; apply Exists.intro; refine ⟨fun w1 h1 K hK => ?_, ?_⟩; · ( go_big_quiet_op; first | exact hK | fail))
    (refine wpAnyP_one (i := 21) (by kernel_rfl) rfl (by rfl) (fun wa hwa K hK => ?_))
    refine wp_store_box (z6.drew.below hwa) rfl rfl rfl rfl (by kernel_rfl) (by simp [Value.oneCell']) (fun ws zs ho => ?_); dsimp only [Act.put]
    refine hK _ _ trivial ?_
    refine wpAnyP_done (by kernel_rfl) (fun wz hwz => ?_) _
    have hA := hP0 _ _ hC0 hwa
    have hb5 : Below W.heap.size W ws := (hb3.trans (hA.mono hb3.size)).trans (ho.below HG6.out)
    have hb4 : Below W.heap.size W wz := hb5.trans (hwz.mono hb5.size)
    have z7 := zs.below hwz
    clear hP0 hP1 hC0 hwa hwz hb5 hA ho zs hK K ZB ZV z6 hb3
    obtain ⟨z6, hb3⟩ := And.intro z7 hb4
    clear z7 hb4
    obtain ⟨sq, hsq⟩ : ∃ sq : Spn, sq = ⟨min sp.lo (l s).lo, max sp.hi (l s).hi⟩ := ⟨_, rfl⟩
    have EQ := Lib.hid (show leak1 g c l p s = fun j => if j = s then sq else l j by rw [EL.out, hsq]; simp)
    replace z6 : Box g6 #[.int .i64 sq.lo, .int .i64 sq.hi] 34 wz := by
      have e1 : min sp.lo (l s).lo = if (l s).lo < sp.lo then (l s).lo else sp.lo := by split <;> omega
      have e2 : max sp.hi (l s).hi = if sp.hi < (l s).hi then (l s).hi else sp.hi := by split <;> omega
      rw [hsq]; dsimp only; rw [e1, e2]; exact z6
    clear hsq
    go_upto_region 3 with fail
    obtain ⟨W3, hW3⟩ : ∃ X, X = wz := ⟨_, rfl⟩
    rw [← hW3] at z6 hb3 ⊢
    clear hW3
    have ZB := HH.out.hb.below hb3
    have ZV := HH.out.hv.below hb3
    have hCC : ∀ A B : World, Same (fun b => b < W3.heap.size ∧ b ≠ gv) W3 A → Below A.heap.size A B → Same (fun b => b < W3.heap.size ∧ b ≠ gv) W3 B := fun A B h1 h2 => h1.trans (Same.of_below h2 fun _ hk _ => hk)
    have hC0 : Same (fun b => b < W3.heap.size ∧ b ≠ gv) W3 W3.drew := (Same.refl _ _).drew
    have n6 : g6 ≠ gv := fun e => by have := HH.out.hv.lt; have := HG6.out; omega
    refine wp_region_garb (Same (fun b => b < W3.heap.size ∧ b ≠ gv) W3) (by kernel_rfl) ?_
    (refine wpAnyG_take (i := 0) hCC hC0 rfl (by kernel_rfl) (by kernel_rfl) (by kernel_rfl) (fun _ _ _ _ h => h) (by rfl) ?_; apply Exists.intro; refine ⟨fun w1 h1 K hK => ?_, ?_⟩; · (have f0 : ∀ W : Aft w1, W.val.cell? ⟨gb, 0, none⟩ = some (.pointer (some ⟨gv, 0, none⟩)) := fun W => (ZB.same (hCC _ _ h1 W.below) ⟨ZB.lt, N2.out⟩).cell 0 rfl; go_big_quiet_op; first | exact hK | fail))
    (refine wpAnyG_take (i := 1) hCC hC0 rfl (by kernel_rfl) (by kernel_rfl) (by kernel_rfl) (fun _ _ _ _ h => h) (by rfl) ?_; apply Exists.intro; refine ⟨fun w1 h1 K hK => ?_, ?_⟩; · ( go_big_quiet_op; first | exact hK | fail))
    (refine wpAnyG_take (i := 2) hCC hC0 rfl (by kernel_rfl) (by kernel_rfl) (by kernel_rfl) (fun _ _ _ _ h => h) (by rfl) ?_; apply Exists.intro; refine ⟨fun w1 h1 K hK => ?_, ?_⟩; · (have f := fun W : Aft w1 => z6.same (hCC _ _ h1 W.below) ⟨z6.lt, n6⟩; have f0 : ∀ W : Aft w1, W.val.cell? ⟨g6, 0, none⟩ = some (.int .i64 sq.lo) := fun W => (f W).cell 0 rfl; have f1 : ∀ W : Aft w1, W.val.cell? ⟨g6, 1, none⟩ = some (.int .i64 sq.hi) := fun W => (f W).cell 1 rfl; go_big_quiet_op; first | exact hK | fail))
    (refine wpAnyG_take (i := 3) hCC hC0 rfl (by kernel_rfl) (by kernel_rfl) (by kernel_rfl) (fun _ _ _ _ h => h) (by rfl) ?_; apply Exists.intro; refine ⟨fun w1 h1 K hK => ?_, ?_⟩; · (have f0 : ∀ W : Aft w1, gv < W.val.heap.size := fun W => Nat.lt_of_lt_of_le ZV.lt (hCC _ _ h1 W.below).size; go_big_quiet_op; first | exact hK | fail))
    (refine wpAnyG_take (i := 4) hCC hC0 rfl (by kernel_rfl) (by kernel_rfl) (by kernel_rfl) (fun _ _ _ _ h => h) (by rfl) ?_; apply Exists.intro; refine ⟨fun w1 h1 K hK => ?_, ?_⟩; · ( go_big_quiet_op; first | exact hK | fail))
    (refine wpAnyG_take (i := 5) hCC hC0 rfl (by kernel_rfl) (by kernel_rfl) (by kernel_rfl) (fun _ _ _ _ h => h) (by rfl) ?_; apply Exists.intro; refine ⟨fun w1 h1 K hK => ?_, ?_⟩; · ( go_big_quiet_op; first | exact hK | fail))
    (refine wpAnyG_one (i := 6) (by kernel_rfl) rfl (by rfl) (fun wa hwa K hK => ?_))
    refine wp_store_at (ZV.drew.below hwa) rfl rfl rfl (by simp; omega) (by kernel_rfl) (by simp [Value.oneCell']) (fun ws zs ho => ?_)
    dsimp only [Act.put]
    have hS9 : Same (fun b => b < W3.heap.size ∧ b ≠ gv) W3 ws := (hCC _ _ hC0 hwa).trans ⟨ho.os, ho.tape, ho.output, Nat.le_of_eq ho.size.symm, fun b _ hp => ho.block b hp.2⟩
    refine hK _ _ hS9 ?_
    refine wpAnyG_done (by kernel_rfl) (fun wz hwz => ?_) _
    have hS := hCC _ _ hS9 hwz
    have zv := zs.below hwz
    refine bodyPost_end (results_none rfl _ _ _) rfl ⟨⟨_, rfl⟩, ?_⟩
    rw [EQ.out]
    refine ⟨HH.out.low.trans ((Same.of_below hb3 fun _ hk _ => hk).trans (hS.mono fun k h1 h2 => ⟨h1, h2.2⟩)), (HH.out.hg.below hb3).same hS ⟨(HH.out.hg.below hb3).lt, N1.out⟩, ZB.same hS ⟨ZB.lt, N2.out⟩, ?_⟩
    have e5 := vd_set so sn c y l hs sq
    have zv2 : Box gv (((vdCells so sn c y l).setIfInBounds (4 + s * 2) (.int .i64 sq.lo)).setIfInBounds (4 + s * 2 + 1) (.int .i64 sq.hi)) 56 wz := zv
    rw [e5] at zv2
    exact zv2
end Go.Proofs.YtmeeknmjhlfnaaaDoor
