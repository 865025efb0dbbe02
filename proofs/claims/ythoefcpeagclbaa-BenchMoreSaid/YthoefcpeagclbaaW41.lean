/- The water of a truth. -/
import Derived.Test.YthoefcpeagclbaaW40
import Derived.Test.YthoefcpeagclbaaW16
import Derived.Deep.DeepCutAuto
namespace Go.Proofs.Ythoefcpeagclbaa
open Go.RowKit
theorem draw_at (J : Nat) (s : Spn) (zb kb j : Nat) (ka : Option Addr) (kn kc : Nat) (q : Nat → Nat) (w : World) (hJ : J = j + 1) (h : s.lo ≤ s.hi) (hb : -1000000000000000 ≤ s.lo ∧ s.hi ≤ 1000000000000000) (hj : j ≤ 1000) (hkn : 0 < kn) (hkn2 : kn ≤ 9223372036854775807)
    (hZ : Box zb #[.int .i64 (j : Nat)] 3 w) (hK : Box kb #[.slice ka kn kc] 46 w) (hne : kb ≠ zb) (hQ : U32sAt w ka kn q) (hqz : ∀ a, ka = some a → a.block ≠ zb) :
    Calls Try.prog 51 #[s.val, .pointer (some ⟨zb, 0, none⟩), .pointer (some ⟨kb, 0, none⟩)] w fun e w' => e = .returned (.int .i64 (pickV s (q (J % kn)))) ∧ Zed zb J w w' := by
  subst hJ
  exact draw_any s zb kb j ka kn kc q w h hb hj hkn hkn2 hZ hK hne hQ hqz
/-- what is so of a bench and a catch whose water is known -/
theorem truth_bounds {b : Bnch} {x : Ctch} (h : (b.waterR x).2 = 0) : (0 ≤ b.off ∧ b.off ≤ 10000000) ∧ (0 ≤ x.beg.lo ∧ x.beg.lo ≤ x.beg.hi ∧ x.beg.hi ≤ 10000000) ∧ (0 ≤ x.fin.lo ∧ x.fin.lo ≤ x.fin.hi ∧ x.fin.hi ≤ 10000000) ∧ (0 ≤ b.buoy.lo ∧ b.buoy.lo ≤ b.buoy.hi ∧ b.buoy.hi ≤ 10000) ∧
    (b.weighs = true → (b.t 0).at_ ≤ x.warm.lo ∧ x.warm.lo ≤ x.warm.hi ∧ x.warm.hi ≤ (b.t (b.n - 1)).at_ ∧ 0 ≤ x.warm.lo ∧ x.warm.hi ≤ 10000) ∧
    (b.weighs = false → ((b.t 0).at_ ≤ x.beg.lo ∧ x.beg.hi ≤ (b.t (b.n - 1)).at_) ∧ (b.t 0).at_ ≤ x.fin.lo ∧ x.fin.hi ≤ (b.t (b.n - 1)).at_) := by
  obtain ⟨hv, hr, -, -, -⟩ := waterR_ok h
  have hV := valid_tab hv
  obtain ⟨-, hn1, hn2, ho, hbu, -⟩ := valid_all hv
  have a0 := hV.at0 0 (by omega)
  have a1 := hV.at1 (b.n - 1) (by omega)
  unfold Bnch.rightB at hr
  by_cases hw : b.weighs = true
  · rw [if_pos hw] at hr
    have hr3 : ((0 ≤ x.beg.lo ∧ x.beg.lo ≤ x.beg.hi ∧ x.beg.hi ≤ 10000000) ∧ (0 ≤ x.fin.lo ∧ x.fin.lo ≤ x.fin.hi ∧ x.fin.hi ≤ 10000000)) ∧ ((b.t 0).at_ ≤ x.warm.lo ∧ x.warm.lo ≤ x.warm.hi ∧ x.warm.hi ≤ (b.t (b.n - 1)).at_) := by
      simp only [Bnch.scaleOk, spanB, Bool.and_eq_true, decide_eq_true_eq] at hr
      exact hr
    obtain ⟨⟨⟨r1, r2, r3⟩, r4, r5, r6⟩, r7, r8, r9⟩ := hr3
    exact ⟨ho, ⟨r1, r2, r3⟩, ⟨r4, r5, r6⟩, hbu, fun _ => ⟨r7, r8, r9, by omega, by omega⟩, fun h9 => by rw [hw] at h9; cases h9⟩
  · rw [if_neg hw] at hr
    have hr3 : ((b.t 0).at_ ≤ x.beg.lo ∧ x.beg.lo ≤ x.beg.hi ∧ x.beg.hi ≤ (b.t (b.n - 1)).at_) ∧ ((b.t 0).at_ ≤ x.fin.lo ∧ x.fin.lo ≤ x.fin.hi ∧ x.fin.hi ≤ (b.t (b.n - 1)).at_) := by
      simp only [Bnch.tankOk, spanB, Bool.and_eq_true, decide_eq_true_eq] at hr
      exact hr
    obtain ⟨⟨r1, r2, r3⟩, r4, r5, r6⟩ := hr3
    exact ⟨ho, ⟨by omega, r2, by omega⟩, ⟨by omega, r5, by omega⟩, hbu, fun h9 => absurd h9 hw, fun _ => ⟨⟨r1, r3⟩, r4, r6⟩⟩
theorem MarksAt.two {w W w' : World} {oa : Option Addr} {n zb : Nat} {t : Nat → Mark} (h : MarksAt w oa n t) (hb : Below w.heap.size w W) (h2 : Two zb zb W w') (hz : w.heap.size ≤ zb) : MarksAt w' oa n t := fun i hi => by
  obtain ⟨b, off, ha, hlt, h0, h1⟩ := h i hi
  have hl : b < W.heap.size := Nat.lt_of_lt_of_le hlt hb.size
  exact ⟨b, off, ha, Nat.lt_of_lt_of_le hl h2.size, h2.cell ((hb.cell (p := ⟨b, off + i * 2, none⟩) hlt).trans h0) hl (by omega) (by omega), h2.cell ((hb.cell (p := ⟨b, off + i * 2 + 1, none⟩) hlt).trans h1) hl (by omega) (by omega)⟩
theorem Two.weak {p : Nat} {w w' : World} (h : Two p p w w') (q : Nat) : Two p q w w' := ⟨h.size, fun k hk h1 _ => h.block k hk h1 h1⟩
/-- where a truth's reckoning stands -/
structure Tr (zb z : Nat) (w W w' : World) : Prop where
  low : Below w.heap.size w w'
  two : Two zb zb W w'
  box : Box zb #[.int .i64 (z : Nat)] 3 w'
theorem Tr.below {zb z : Nat} {w W w1 w2 : World} (h : Tr zb z w W w1) (hb : Below w1.heap.size w1 w2) : Tr zb z w W w2 := ⟨h.low.trans (hb.mono h.low.size), h.two.below hb, h.box.below hb⟩
theorem Tr.zed {zb z z' : Nat} {w W w1 w2 : World} (h : Tr zb z w W w1) (hn : w.heap.size ≤ zb) (hz : Zed zb z' w1 w2) : Tr zb z' w W w2 := ⟨h.low.trans (hz.below hn h.low.size), hz.two h.two, hz.box⟩
set_option maxRecDepth 100000 in
set_option maxHeartbeats 8000000 in
theorem truth_any (b : Bnch) (x : Ctch) (oa : Option Addr) (cap : Nat) (ka : Option Addr) (kn kc : Nat) (q : Nat → Nat) (w : World) (h : (b.waterR x).2 = 0) (hT : MarksAt w oa b.n b.t) (hkn : 0 < kn) (hkn2 : kn ≤ 9223372036854775807) (hQ : U32sAt w ka kn q) :
    Calls Try.prog 25 #[b.val oa cap, x.val, .slice ka kn kc] w fun e w' => e = .returned (truthF b x (fun j => q (j % kn))).val ∧ Below w.heap.size w w' := by
  have HH := Lib.hid h
  obtain ⟨⟨o1, o2⟩, ⟨e1, e2, e3⟩, ⟨f1, f2, f3⟩, ⟨u1, u2, u3⟩, hsc, htk⟩ := truth_bounds h
  have HSC := Lib.hid hsc
  have HTK := Lib.hid htk
  have HV := Lib.hid (waterR_ok h).1
  have HQ := Lib.hid hQ
  have HT := Lib.hid hT
  have HKA := Lib.hid (show ∀ a, ka = some a → a.block < w.heap.size from fun a ha => by
    obtain ⟨-, qb, qo, e, hl, -⟩ := hQ 0 hkn
    rw [ha] at e; cases e; exact hl)
  clear h hsc htk hQ hT
  go_enter Try.func25, Try.ntmps25
  go_upto_region 3 with fail
  have HB := Lib.hid ((((two_bench 26 b oa cap x w).old (.cells #[.slice ka kn kc] 46)).old (.cells #[.int .i64 0, .int .i64 0] 50)).old (.cells #[.int .i64 0] 3))
  have HC := Lib.hid ((((two_catch 26 b oa cap x w).old (.cells #[.slice ka kn kc] 46)).old (.cells #[.int .i64 0, .int .i64 0] 50)).old (.cells #[.int .i64 0] 3))
  have HK : Box (w.heap.size + 1 + 1) #[.slice ka kn kc] 46 ((((two 26 b oa cap x w).alloc (.cells #[.slice ka kn kc] 46)).alloc (.cells #[.int .i64 0, .int .i64 0] 50)).alloc (.cells #[.int .i64 0] 3)) := ((Box.new _ _ _ (by simp)).old _).old _
  have HR : Box (w.heap.size + 1 + 1 + 1) #[.int .i64 0, .int .i64 0] 50 ((((two 26 b oa cap x w).alloc (.cells #[.slice ka kn kc] 46)).alloc (.cells #[.int .i64 0, .int .i64 0] 50)).alloc (.cells #[.int .i64 0] 3)) := (Box.new _ _ _ (by simp)).old _
  have HZ : Box (w.heap.size + 1 + 1 + 1 + 1) #[.int .i64 ((0 : Nat) : Int)] 3 ((((two 26 b oa cap x w).alloc (.cells #[.slice ka kn kc] 46)).alloc (.cells #[.int .i64 0, .int .i64 0] 50)).alloc (.cells #[.int .i64 0] 3)) := Box.new _ _ _ (by simp)
  have hbw : Below w.heap.size w ((((two 26 b oa cap x w).alloc (.cells #[.slice ka kn kc] 46)).alloc (.cells #[.int .i64 0, .int .i64 0] 50)).alloc (.cells #[.int .i64 0] 3)) := (((two_below 26 b oa cap x w).alloc (by simp; omega) _).alloc (by simp; omega) _).alloc (by simp; omega) _
  obtain ⟨W, hW⟩ : ∃ X, X = (((two 26 b oa cap x w).alloc (.cells #[.slice ka kn kc] 46)).alloc (.cells #[.int .i64 0, .int .i64 0] 50)).alloc (.cells #[.int .i64 0] 3) := ⟨_, rfl⟩
  rw [← hW] at HB HC HK HR HZ hbw
  simp only [two] at hW
  rw [← hW]
  clear hW
  have LK := Lib.hid HK
  have LR := Lib.hid HR
  have hzl := HZ.lt
  have hTr : Tr (w.heap.size + 1 + 1 + 1 + 1) 0 w W W := ⟨hbw, Two.refl _ _ _, HZ⟩
  have hbW := hbw
  clear HK HR HZ hbw
  obtain ⟨zb, hzb⟩ : ∃ z, z = w.heap.size + 1 + 1 + 1 + 1 := ⟨_, rfl⟩
  rw [← hzb] at hTr hzl ⊢
  have hzb1 : w.heap.size + 1 + 1 + 1 < zb := by omega
  clear hzb
  have HKZ := Lib.hid (show ∀ a, ka = some a → a.block ≠ zb from fun a ha => by have := HKA.out a ha; omega)
  have hCC : ∀ A B : World, Two zb zb W A → Below A.heap.size A B → Two zb zb W B := fun A B h1 h2 => h1.below h2
  have hTz := hTr
  clear hTr
  have hTr : Tr zb 0 w W W.drew := ⟨below_drewN hTz.low 1, hTz.two.drew, hTz.box.drew⟩
  clear hTz
  have hC0 := hTr.two
  have V1 : IntKind.i64.wrap (-b.off) = -b.off := IntWalk.i64_in _ (by omega)
  refine wp_region_garb (Two zb zb W) (by kernel_rfl) ?_
  (refine wpAnyG_take (i := 0) hCC hC0 rfl (by kernel_rfl) (by kernel_rfl) (by kernel_rfl) (fun _ _ _ _ h => h) (by rfl) ?_; apply Exists.intro; refine ⟨fun w1 h1 K hK => ?_, ?_⟩; · ( go_big_quiet_op; first | exact hK | fail))
  (refine wpAnyG_take (i := 1) hCC hC0 rfl (by kernel_rfl) (by kernel_rfl) (by kernel_rfl) (fun _ _ _ _ h => h) (by rfl) ?_; apply Exists.intro; refine ⟨fun w1 h1 K hK => ?_, ?_⟩; · ( go_big_quiet_op; first | exact hK | fail))
  (refine wpAnyG_take (i := 2) hCC hC0 rfl (by kernel_rfl) (by kernel_rfl) (by kernel_rfl) (fun _ _ _ _ h => h) (by rfl) ?_; apply Exists.intro; refine ⟨fun w1 h1 K hK => ?_, ?_⟩; · (have f := fun W9 : Aft w1 => Two.box (h1.below W9.below) HB.out (by omega) (by omega); have f2 : ∀ W : Aft w1, W.val.cell? ⟨w.heap.size, 2, none⟩ = some (.int .i64 b.off) := fun W => (f W).cell 2 rfl; go_big_quiet_op; first | exact hK | fail))
  (refine wpAnyG_take (i := 3) hCC hC0 rfl (by kernel_rfl) (by kernel_rfl) (by kernel_rfl) (fun _ _ _ _ h => h) (by rfl) ?_; apply Exists.intro; refine ⟨fun w1 h1 K hK => ?_, ?_⟩; · ( go_big_quiet_op; first | exact hK | fail))
  (refine wpAnyG_take (i := 4) hCC hC0 rfl (by kernel_rfl) (by kernel_rfl) (by kernel_rfl) (fun _ _ _ _ h => h) (by rfl) ?_; apply Exists.intro; refine ⟨fun w1 h1 K hK => ?_, ?_⟩; · ( go_big_quiet_op; first | exact hK | fail))
  (refine wpAnyG_take (i := 5) hCC hC0 rfl (by kernel_rfl) (by kernel_rfl) (by kernel_rfl) (fun _ _ _ _ h => h) (by rfl) ?_; apply Exists.intro; refine ⟨fun w1 h1 K hK => ?_, ?_⟩; · (have f := fun W9 : Aft w1 => Two.box (h1.below W9.below) HB.out (by omega) (by omega); have f2 : ∀ W : Aft w1, W.val.cell? ⟨w.heap.size, 2, none⟩ = some (.int .i64 b.off) := fun W => (f W).cell 2 rfl; go_big_quiet_op; first | exact hK | fail))
  (refine wpAnyG_take (i := 6) hCC hC0 rfl (by kernel_rfl) (by kernel_rfl) (by kernel_rfl) (fun _ _ _ _ h => h) (by rfl) ?_; apply Exists.intro; refine ⟨fun w1 h1 K hK => ?_, ?_⟩; · ( go_big_quiet_op; first | exact hK | exact ⟨_, fun W => aft_call (span_al _ _ _), hK⟩))
  (refine wpAnyG_take (i := 8) hCC hC0 rfl (by kernel_rfl) (by kernel_rfl) (by kernel_rfl) (fun _ _ _ _ h => h) (by rfl) ?_; apply Exists.intro; refine ⟨fun w1 h1 K hK => ?_, ?_⟩; · ( go_big_quiet_op; first | exact hK | fail))
  (refine wpAnyG_take (i := 9) hCC hC0 rfl (by kernel_rfl) (by kernel_rfl) (by kernel_rfl) (fun _ _ _ _ h => h) (by rfl) ?_; apply Exists.intro; refine ⟨fun w1 h1 K hK => ?_, ?_⟩; · ( go_big_quiet_op; first | exact hK | fail))
  (refine wpAnyG_take (i := 10) hCC hC0 rfl (by kernel_rfl) (by kernel_rfl) (by kernel_rfl) (fun _ _ _ _ h => h) (by rfl) ?_; apply Exists.intro; refine ⟨fun w1 h1 K hK => ?_, ?_⟩; · (have f := fun W9 : Aft w1 => Two.box (h1.below W9.below) HB.out (by omega) (by omega); have f2 : ∀ W : Aft w1, W.val.cell? ⟨w.heap.size, 2, none⟩ = some (.int .i64 b.off) := fun W => (f W).cell 2 rfl; go_big_quiet_op; first | exact hK | fail))
  (refine wpAnyG_take (i := 11) hCC hC0 rfl (by kernel_rfl) (by kernel_rfl) (by kernel_rfl) (fun _ _ _ _ h => h) (by rfl) ?_; apply Exists.intro; refine ⟨fun w1 h1 K hK => ?_, ?_⟩; · ( go_big_quiet_op; first | exact hK | fail))
  (refine wpAnyG_take (i := 12) hCC hC0 rfl (by kernel_rfl) (by kernel_rfl) (by kernel_rfl) (fun _ _ _ _ h => h) (by rfl) ?_; apply Exists.intro; refine ⟨fun w1 h1 K hK => ?_, ?_⟩; · ( go_big_quiet_op; first | exact hK | fail))
  (refine wpAnyG_take (i := 13) hCC hC0 rfl (by kernel_rfl) (by kernel_rfl) (by kernel_rfl) (fun _ _ _ _ h => h) (by rfl) ?_; apply Exists.intro; refine ⟨fun w1 h1 K hK => ?_, ?_⟩; · (have f := fun W9 : Aft w1 => Two.box (h1.below W9.below) HB.out (by omega) (by omega); have f2 : ∀ W : Aft w1, W.val.cell? ⟨w.heap.size, 2, none⟩ = some (.int .i64 b.off) := fun W => (f W).cell 2 rfl; go_big_quiet_op; first | exact hK | fail))
  (refine wpAnyG_one (i := 7) (by kernel_rfl) rfl (by rfl) (fun wa hwa K hK => ?_))
  go_simp
  have hTa := hTr.below hwa
  refine (draw_at 1 ⟨-b.off, b.off⟩ zb _ 0 ka kn kc q _ rfl (by dsimp only; omega) (by dsimp only; omega) (by omega) hkn hkn2 hTa.box (Two.box hTa.two LK.out (by omega) (by omega)) (by omega) (HQ.out.mono hTa.low) HKZ.out).mono ?_
  rintro e wb ⟨rfl, hz9⟩
  have hTb := hTa.zed (by omega) hz9
  clear hTr hTa hz9 hwa hC0
  have hTr := hTb
  have hC0 := hTr.two
  clear hTb
  refine hK _ _ hC0 ?_
  clear hK K
  have HI1 := Lib.hid (pick_in (s := ⟨-b.off, b.off⟩) (by dsimp only; omega) (q (1 % kn)))
  obtain ⟨v1, hv1⟩ : ∃ v, v = pickV ⟨-b.off, b.off⟩ (q (1 % kn)) := ⟨_, rfl⟩
  rw [← hv1] at HI1 ⊢
  have Hv1 := Lib.hid hv1
  clear hv1
  (refine wpAnyG_take (i := 14) hCC hC0 rfl (by kernel_rfl) (by kernel_rfl) (by kernel_rfl) (fun _ _ _ _ h => h) (by rfl) ?_; apply Exists.intro; refine ⟨fun w1 h1 K hK => ?_, ?_⟩; · ( go_big_quiet_op; first | exact hK | exact ⟨_, fun W => aft_call (span_al _ _ _), hK⟩))
  (refine wpAnyG_one (i := 15) (by kernel_rfl) rfl (by rfl) (fun wa hwa K hK => ?_))
  go_simp
  have hTa := hTr.below hwa
  refine (draw_at 2 ⟨-b.off, b.off⟩ zb _ 1 ka kn kc q _ rfl (by dsimp only; omega) (by dsimp only; omega) (by omega) hkn hkn2 hTa.box (Two.box hTa.two LK.out (by omega) (by omega)) (by omega) (HQ.out.mono hTa.low) HKZ.out).mono ?_
  rintro e wb ⟨rfl, hz9⟩
  have hTb := hTa.zed (by omega) hz9
  clear hTr hTa hz9 hwa hC0
  have hTr := hTb
  have hC0 := hTr.two
  clear hTb
  refine hK _ _ hC0 ?_
  clear hK K
  have HI2 := Lib.hid (pick_in (s := ⟨-b.off, b.off⟩) (by dsimp only; omega) (q (2 % kn)))
  obtain ⟨v2, hv2⟩ : ∃ v, v = pickV ⟨-b.off, b.off⟩ (q (2 % kn)) := ⟨_, rfl⟩
  rw [← hv2] at HI2 ⊢
  have Hv2 := Lib.hid hv2
  clear hv2
  have i1 := HI1.out
  have i2 := HI2.out
  dsimp only at i1 i2
  have V2 : IntKind.i64.wrap (v1 - v2) = v1 - v2 := IntWalk.i64_in _ (by omega)
  (refine wpAnyG_take (i := 16) hCC hC0 rfl (by kernel_rfl) (by kernel_rfl) (by kernel_rfl) (fun _ _ _ _ h => h) (by rfl) ?_; apply Exists.intro; refine ⟨fun w1 h1 K hK => ?_, ?_⟩; · ( go_big_quiet_op; first | exact hK | fail))
  (refine wpAnyG_take (i := 17) hCC hC0 rfl (by kernel_rfl) (by kernel_rfl) (by kernel_rfl) (fun _ _ _ _ h => h) (by rfl) ?_; apply Exists.intro; refine ⟨fun w1 h1 K hK => ?_, ?_⟩; · ( go_big_quiet_op; first | exact hK | fail))
  refine wpAnyG_done (by kernel_rfl) (fun wz hwz => ?_) _
  have hTz := hTr.below hwz
  clear hTr hwz hC0 V1 V2
  go_wp2_with fail
  obtain ⟨off, hoff⟩ : ∃ v, v = v1 - v2 := ⟨_, rfl⟩
  have HOFF := Lib.hid (show off = offV b (fun j => q (j % kn)) by rw [hoff, Hv1.out, Hv2.out]; rfl)
  rw [← hoff]
  have B1 : -20000000 ≤ off ∧ off ≤ 20000000 := by omega
  clear i1 i2 HI1 HI2 Hv1 Hv2 hoff
  obtain ⟨W2, hW2⟩ : ∃ X, X = wz := ⟨_, rfl⟩
  rw [← hW2] at hTz ⊢
  clear hW2
  have hTr : Tr zb 2 w W W2.drew := ⟨below_drewN hTz.low 1, hTz.two.drew, hTz.box.drew⟩
  clear hTz
  have hC0 := hTr.two
  refine wp_region_garb (Two zb zb W) (by kernel_rfl) ?_
  (refine wpAnyG_take (i := 0) hCC hC0 rfl (by kernel_rfl) (by kernel_rfl) (by kernel_rfl) (fun _ _ _ _ h => h) (by rfl) ?_; apply Exists.intro; refine ⟨fun w1 h1 K hK => ?_, ?_⟩; · ( go_big_quiet_op; first | exact hK | fail))
  (refine wpAnyG_take (i := 1) hCC hC0 rfl (by kernel_rfl) (by kernel_rfl) (by kernel_rfl) (fun _ _ _ _ h => h) (by rfl) ?_; apply Exists.intro; refine ⟨fun w1 h1 K hK => ?_, ?_⟩; · ( go_big_quiet_op; first | exact hK | fail))
  (refine wpAnyG_take (i := 2) hCC hC0 rfl (by kernel_rfl) (by kernel_rfl) (by kernel_rfl) (fun _ _ _ _ h => h) (by rfl) ?_; apply Exists.intro; refine ⟨fun w1 h1 K hK => ?_, ?_⟩; · (have f := fun W9 : Aft w1 => Two.box (h1.below W9.below) HC.out (by omega) (by omega); have f0 : ∀ W : Aft w1, W.val.cell? ⟨w.heap.size + 1, 0, none⟩ = some (.int .i64 x.beg.lo) := fun W => (f W).cell 0 rfl; have f1 : ∀ W : Aft w1, W.val.cell? ⟨w.heap.size + 1, 1, none⟩ = some (.int .i64 x.beg.hi) := fun W => (f W).cell 1 rfl; go_big_quiet_op; first | exact hK | fail))
  (refine wpAnyG_take (i := 4) hCC hC0 rfl (by kernel_rfl) (by kernel_rfl) (by kernel_rfl) (fun _ _ _ _ h => h) (by rfl) ?_; apply Exists.intro; refine ⟨fun w1 h1 K hK => ?_, ?_⟩; · ( go_big_quiet_op; first | exact hK | fail))
  (refine wpAnyG_take (i := 5) hCC hC0 rfl (by kernel_rfl) (by kernel_rfl) (by kernel_rfl) (fun _ _ _ _ h => h) (by rfl) ?_; apply Exists.intro; refine ⟨fun w1 h1 K hK => ?_, ?_⟩; · ( go_big_quiet_op; first | exact hK | fail))
  (refine wpAnyG_take (i := 6) hCC hC0 rfl (by kernel_rfl) (by kernel_rfl) (by kernel_rfl) (fun _ _ _ _ h => h) (by rfl) ?_; apply Exists.intro; refine ⟨fun w1 h1 K hK => ?_, ?_⟩; · (have f := fun W9 : Aft w1 => Two.box (h1.below W9.below) HC.out (by omega) (by omega); have f2 : ∀ W : Aft w1, W.val.cell? ⟨w.heap.size + 1, 2, none⟩ = some (.int .i64 x.fin.lo) := fun W => (f W).cell 2 rfl; have f3 : ∀ W : Aft w1, W.val.cell? ⟨w.heap.size + 1, 3, none⟩ = some (.int .i64 x.fin.hi) := fun W => (f W).cell 3 rfl; go_big_quiet_op; first | exact hK | fail))
  (refine wpAnyG_one (i := 3) (by kernel_rfl) rfl (by rfl) (fun wa hwa K hK => ?_))
  go_simp
  have hTa := hTr.below hwa
  refine (draw_at 3 x.beg zb _ 2 ka kn kc q _ rfl e2 (by omega) (by omega) hkn hkn2 hTa.box (Two.box hTa.two LK.out (by omega) (by omega)) (by omega) (HQ.out.mono hTa.low) HKZ.out).mono ?_
  rintro e wb ⟨rfl, hz9⟩
  have hTb := hTa.zed (by omega) hz9
  clear hTr hTa hz9 hwa hC0
  have hTr := hTb
  have hC0 := hTr.two
  clear hTb
  refine hK _ _ hC0 ?_
  clear hK K
  have HI3 := Lib.hid (pick_in (s := x.beg) e2 (q (3 % kn)))
  obtain ⟨v3, hv3⟩ : ∃ v, v = pickV x.beg (q (3 % kn)) := ⟨_, rfl⟩
  rw [← hv3] at HI3 ⊢
  have Hv3 := Lib.hid hv3
  clear hv3
  (refine wpAnyG_one (i := 7) (by kernel_rfl) rfl (by rfl) (fun wa hwa K hK => ?_))
  go_simp
  have hTa := hTr.below hwa
  refine (draw_at 4 x.fin zb _ 3 ka kn kc q _ rfl f2 (by omega) (by omega) hkn hkn2 hTa.box (Two.box hTa.two LK.out (by omega) (by omega)) (by omega) (HQ.out.mono hTa.low) HKZ.out).mono ?_
  rintro e wb ⟨rfl, hz9⟩
  have hTb := hTa.zed (by omega) hz9
  clear hTr hTa hz9 hwa hC0
  have hTr := hTb
  have hC0 := hTr.two
  clear hTb
  refine hK _ _ hC0 ?_
  clear hK K
  have HI4 := Lib.hid (pick_in (s := x.fin) f2 (q (4 % kn)))
  obtain ⟨v4, hv4⟩ : ∃ v, v = pickV x.fin (q (4 % kn)) := ⟨_, rfl⟩
  rw [← hv4] at HI4 ⊢
  have Hv4 := Lib.hid hv4
  clear hv4
  (refine wpAnyG_take (i := 8) hCC hC0 rfl (by kernel_rfl) (by kernel_rfl) (by kernel_rfl) (fun _ _ _ _ h => h) (by rfl) ?_; apply Exists.intro; refine ⟨fun w1 h1 K hK => ?_, ?_⟩; · ( go_big_quiet_op; first | exact hK | fail))
  (refine wpAnyG_take (i := 9) hCC hC0 rfl (by kernel_rfl) (by kernel_rfl) (by kernel_rfl) (fun _ _ _ _ h => h) (by rfl) ?_; apply Exists.intro; refine ⟨fun w1 h1 K hK => ?_, ?_⟩; · ( go_big_quiet_op; first | exact hK | fail))
  refine wpAnyG_done (by kernel_rfl) (fun wz hwz => ?_) _
  have hTz := hTr.below hwz
  clear hTr hwz hC0
  have i3 := HI3.out
  have i4 := HI4.out
  have HBz := Two.box hTz.two HB.out (by omega) (by omega)
  obtain ⟨b0, b1, b2, b3, b4, b5, b6, b7⟩ := BB.cells (b := b) HBz
  clear HBz
  have HVT := Lib.hid (valid_tab HV.out)
  cases hw : b.weighs with
  | true =>
    obtain ⟨s1, s2, s3, s4, s5⟩ := HSC.out hw
    rw [hw] at b0
    have HW := Lib.hid hw
    clear hw
    go_upto_region 6 with fail
    clear b0 b1 b2 b3 b4 b5 b6 b7
  
    obtain ⟨v5, hv5⟩ : ∃ v, v = pickV x.warm (q (5 % kn)) := ⟨_, rfl⟩
    have i5 := pick_in (s := x.warm) s2 (q (5 % kn))
    rw [← hv5] at i5
    have Hv5 := Lib.hid hv5
    clear hv5
    have HD := Lib.hid (at_dense HVT.out (show (b.t 0).at_ ≤ v5 by omega) (show v5 ≤ (b.t (b.n - 1)).at_ by omega))
    obtain ⟨W3, hW3⟩ : ∃ X, X = wz := ⟨_, rfl⟩
    rw [← hW3] at hTz ⊢
    clear hW3
    go_cut [12] (fun s12 wx => ∃ g, s12 = .pointer (some ⟨g, 0, none⟩) ∧ W.heap.size ≤ g ∧ Box g #[.int .i64 (tabAt b.n b.t v5).top, .int .i64 (tabAt b.n b.t v5).under] 50 wx ∧ Tr zb 5 w W wx)
    case first =>
      have hTr : Tr zb 4 w W W3.drew := ⟨below_drewN hTz.low 1, hTz.two.drew, hTz.box.drew⟩
      clear hTz
      have hC0 := hTr.two
      refine wp_region_garb (Two zb zb W) (by kernel_rfl) ?_
      (refine wpAnyG_take (i := 0) hCC hC0 rfl (by kernel_rfl) (by kernel_rfl) (by kernel_rfl) (fun _ _ _ _ h => h) (by rfl) ?_; apply Exists.intro; refine ⟨fun w1 h1 K hK => ?_, ?_⟩; · (have f := fun W9 : Aft w1 => Two.box (h1.below W9.below) HB.out (by omega) (by omega); have f0 : ∀ W : Aft w1, W.val.cell? ⟨w.heap.size, 0, none⟩ = some (.bool b.weighs) := fun W => (f W).cell 0 rfl; have f1 : ∀ W : Aft w1, W.val.cell? ⟨w.heap.size, 1, none⟩ = some (.slice oa b.n cap) := fun W => (f W).cell 1 rfl; have f2 : ∀ W : Aft w1, W.val.cell? ⟨w.heap.size, 2, none⟩ = some (.int .i64 b.off) := fun W => (f W).cell 2 rfl; have f3 : ∀ W : Aft w1, W.val.cell? ⟨w.heap.size, 3, none⟩ = some (.int .i64 b.buoy.lo) := fun W => (f W).cell 3 rfl; have f4 : ∀ W : Aft w1, W.val.cell? ⟨w.heap.size, 4, none⟩ = some (.int .i64 b.buoy.hi) := fun W => (f W).cell 4 rfl; have f5 : ∀ W : Aft w1, W.val.cell? ⟨w.heap.size, 5, none⟩ = some (.int .i64 b.air.lo) := fun W => (f W).cell 5 rfl; have f6 : ∀ W : Aft w1, W.val.cell? ⟨w.heap.size, 6, none⟩ = some (.int .i64 b.air.hi) := fun W => (f W).cell 6 rfl; go_big_quiet_op; first | exact hK | fail))
      (refine wpAnyG_take (i := 1) hCC hC0 rfl (by kernel_rfl) (by kernel_rfl) (by kernel_rfl) (fun _ _ _ _ h => h) (by rfl) ?_; apply Exists.intro; refine ⟨fun w1 h1 K hK => ?_, ?_⟩; · ( go_big_quiet_op; first | exact hK | fail))
      (refine wpAnyG_take (i := 2) hCC hC0 rfl (by kernel_rfl) (by kernel_rfl) (by kernel_rfl) (fun _ _ _ _ h => h) (by rfl) ?_; apply Exists.intro; refine ⟨fun w1 h1 K hK => ?_, ?_⟩; · ( go_big_quiet_op; first | exact hK | fail))
      (refine wpAnyG_take (i := 3) hCC hC0 rfl (by kernel_rfl) (by kernel_rfl) (by kernel_rfl) (fun _ _ _ _ h => h) (by rfl) ?_; apply Exists.intro; refine ⟨fun w1 h1 K hK => ?_, ?_⟩; · (have f := fun W9 : Aft w1 => Two.box (h1.below W9.below) HC.out (by omega) (by omega); have f4 : ∀ W : Aft w1, W.val.cell? ⟨w.heap.size + 1, 4, none⟩ = some (.int .i64 x.warm.lo) := fun W => (f W).cell 4 rfl; have f5 : ∀ W : Aft w1, W.val.cell? ⟨w.heap.size + 1, 5, none⟩ = some (.int .i64 x.warm.hi) := fun W => (f W).cell 5 rfl; go_big_quiet_op; first | exact hK | fail))
      (refine wpAnyG_two (i := 4) (k := 6) (by kernel_rfl) rfl rfl (by rfl) (by rfl) (fun wa hwa K hK => ?_) (fun wa hwa K hK => ?_))
      · go_simp
        have hTa := hTr.below hwa
        refine (draw_at 5 x.warm zb _ 4 ka kn kc q _ rfl s2 (by omega) (by omega) hkn hkn2 hTa.box (Two.box hTa.two LK.out (by omega) (by omega)) (by omega) (HQ.out.mono hTa.low) HKZ.out).mono ?_
        rintro e wb ⟨rfl, hz9⟩
        rw [← Hv5.out]
        have hTb := hTa.zed (by omega) hz9
        clear hTr hTa hz9 hwa hC0
        have hTr := hTb
        have hC0 := hTr.two
        clear hTb
        refine hK _ _ hC0 ?_
        clear hK K
        (refine wpAnyG_take (i := 5) hCC hC0 rfl (by kernel_rfl) (by kernel_rfl) (by kernel_rfl) (fun _ _ _ _ h => h) (by rfl) ?_; apply Exists.intro; refine ⟨fun w1 h1 K hK => ?_, ?_⟩; · ( go_big_quiet_op; first | exact hK | exact ⟨_, fun W9 => aft_call (refAt_any b oa cap v5 _ HVT.out (HT.out.two hbW (h1.below W9.below) (by omega)) (by omega) (by omega)), hK⟩))
        (refine wpAnyG_one (i := 6) (by kernel_rfl) rfl (by rfl) (fun wa hwa K hK => ?_))
        go_simp
        have sG1 := Box.new (g := wa.heap.size) #[.int .i64 0, .int .i64 0] 50 wa rfl
        have hTa := (hTr.below hwa).below (below_alloc1 wa (.cells #[.int .i64 0, .int .i64 0] 50))
        have hlG1 : W.heap.size ≤ wa.heap.size := Nat.le_trans hTr.two.size hwa.size
        clear hTr hwa hC0
        have hTr := hTa
        have hC0 := hTr.two
        clear hTa
        refine hK _ _ hC0 ?_
        clear hK K
        obtain ⟨G1, hG⟩ : ∃ G, G = wa.heap.size := ⟨_, rfl⟩
        obtain ⟨wA, hWA⟩ : ∃ X, X = wa.alloc (.cells #[.int .i64 0, .int .i64 0] 50) := ⟨_, rfl⟩
        rw [← hG] at sG1 hlG1 ⊢
        rw [← hWA] at sG1 hTr hC0 ⊢
        clear hG hWA
        (refine wpAnyG_one (i := 7) (by kernel_rfl) rfl (by rfl) (fun wb hwb K hK => ?_))
        refine wp_store_box (sG1.below hwb) rfl rfl rfl rfl (by kernel_rfl) (by simp [Value.oneCell']) (fun wc sb ho => ?_); dsimp only [Act.put]
        have hTa := (hTr.below hwb)
        have hTb : Tr zb 5 w W wc := ⟨hTa.low.trans (ho.below (by omega)), ⟨(by rw [ho.size]; exact hTa.two.size), fun k hk h9 h8 => (ho.block k (by omega)).trans (hTa.two.block k hk h9 h8)⟩, ho.box hTa.box (by omega)⟩
        clear hTr hTa hC0 ho hwb
        have hTr := hTb
        have hC0 := hTr.two
        clear hTb
        refine hK _ _ hC0 ?_
        clear hK K
        refine wpAnyG_done (by kernel_rfl) (fun wz hwz => ?_) _
        go_wp2_with fail
        go_meet
        exact ⟨G1, rfl, hlG1, sb.below hwz, hTr.below hwz⟩
      · go_simp
        have sG1 := Box.new (g := wa.heap.size) #[.int .i64 0, .int .i64 0] 50 wa rfl
        have hTa := (hTr.below hwa).below (below_alloc1 wa (.cells #[.int .i64 0, .int .i64 0] 50))
        have hlG1 : W.heap.size ≤ wa.heap.size := Nat.le_trans hTr.two.size hwa.size
        clear hTr hwa hC0
        have hTr := hTa
        have hC0 := hTr.two
        clear hTa
        refine hK _ _ hC0 ?_
        clear hK K
        obtain ⟨G1, hG⟩ : ∃ G, G = wa.heap.size := ⟨_, rfl⟩
        obtain ⟨wA, hWA⟩ : ∃ X, X = wa.alloc (.cells #[.int .i64 0, .int .i64 0] 50) := ⟨_, rfl⟩
        rw [← hG] at sG1 hlG1 ⊢
        rw [← hWA] at sG1 hTr hC0 ⊢
        clear hG hWA
        (refine wpAnyG_one (i := 4) (by kernel_rfl) rfl (by rfl) (fun wa hwa K hK => ?_))
        go_simp
        have hTa := hTr.below hwa
        refine (draw_at 5 x.warm zb _ 4 ka kn kc q _ rfl s2 (by omega) (by omega) hkn hkn2 hTa.box (Two.box hTa.two LK.out (by omega) (by omega)) (by omega) (HQ.out.mono hTa.low) HKZ.out).mono ?_
        rintro e wb ⟨rfl, hz9⟩
        rw [← Hv5.out]
        have hTb := hTa.zed (by omega) hz9
        have sG2 := hz9.old (sG1.below hwa) (by omega)
        clear hTr hTa hz9 hwa hC0
        have hTr := hTb
        have hC0 := hTr.two
        clear hTb
        refine hK _ _ hC0 ?_
        clear hK K
        (refine wpAnyG_take (i := 5) hCC hC0 rfl (by kernel_rfl) (by kernel_rfl) (by kernel_rfl) (fun _ _ _ _ h => h) (by rfl) ?_; apply Exists.intro; refine ⟨fun w1 h1 K hK => ?_, ?_⟩; · ( go_big_quiet_op; first | exact hK | exact ⟨_, fun W9 => aft_call (refAt_any b oa cap v5 _ HVT.out (HT.out.two hbW (h1.below W9.below) (by omega)) (by omega) (by omega)), hK⟩))
        (refine wpAnyG_one (i := 7) (by kernel_rfl) rfl (by rfl) (fun wb hwb K hK => ?_))
        refine wp_store_box (sG2.below hwb) rfl rfl rfl rfl (by kernel_rfl) (by simp [Value.oneCell']) (fun wc sb ho => ?_); dsimp only [Act.put]
        have hTa := (hTr.below hwb)
        have hTb : Tr zb 5 w W wc := ⟨hTa.low.trans (ho.below (by omega)), ⟨(by rw [ho.size]; exact hTa.two.size), fun k hk h9 h8 => (ho.block k (by omega)).trans (hTa.two.block k hk h9 h8)⟩, ho.box hTa.box (by omega)⟩
        clear hTr hTa hC0 ho hwb
        have hTr := hTb
        have hC0 := hTr.two
        clear hTb
        refine hK _ _ hC0 ?_
        clear hK K
        refine wpAnyG_done (by kernel_rfl) (fun wz hwz => ?_) _
        go_wp2_with fail
        go_meet
        exact ⟨G1, rfl, hlG1, sb.below hwz, hTr.below hwz⟩
    case rest =>
      obtain ⟨g, rfl, hgl, hG, hTz⟩ := hcut
      have HG := Lib.hid hG
      have hglt := hG.lt
      clear hG
      obtain ⟨v6, hv6⟩ : ∃ v, v = pickV b.buoy (q (6 % kn)) := ⟨_, rfl⟩
      have i6 := pick_in (s := b.buoy) u2 (q (6 % kn))
      rw [← hv6] at i6
      have Hv6 := Lib.hid hv6
      clear hv6
      have HA := Lib.hid (truthS_all HH.out HW.out (fun j => q (j % kn)))
      have HR := Lib.hid (show (truthF b x fun j => q (j % kn)) = ⟨(v4 - v3 + off) * (1000000 + v6) * (tabAt b.n b.t v5).under, (tabAt b.n b.t v5).top⟩ by
        unfold truthF truthS
        rw [if_pos HW.out, Hv3.out, Hv4.out, Hv5.out, Hv6.out, HOFF.out])
      have ha := HA.out.2.1
      rw [← Hv3.out, ← Hv4.out, ← HOFF.out] at ha
      have d1 := HD.out.u0
      have d2 := HD.out.u1
      obtain ⟨T, hT9⟩ : ∃ T, T = (tabAt b.n b.t v5).top := ⟨_, rfl⟩
      obtain ⟨U, hU9⟩ : ∃ U, U = (tabAt b.n b.t v5).under := ⟨_, rfl⟩
      rw [← hT9, ← hU9] at HR HG
      rw [← hU9] at d1 d2
      clear hT9 hU9
      have m1 := mulb (a := v4 - v3 + off) (b := 1000000 + v6) (x := 30000000) (y := 1010000) (by omega) (by omega) (by omega) (by omega)
      have m2 := mulb (a := (v4 - v3 + off) * (1000000 + v6)) (b := U) (x := 30000000 * 1010000) (y := 10000) m1.1 m1.2 (by omega) d2
      have V1 : IntKind.i64.wrap (v4 - v3) = v4 - v3 := IntWalk.i64_in _ (by omega)
      have V2 : IntKind.i64.wrap (v4 - v3 + off) = v4 - v3 + off := IntWalk.i64_in _ (by omega)
      have V3 : IntKind.i64.wrap (1000000 + v6) = 1000000 + v6 := IntWalk.i64_in _ (by omega)
      have V4 : IntKind.i64.wrap ((v4 - v3 + off) * (1000000 + v6)) = (v4 - v3 + off) * (1000000 + v6) := IntWalk.i64_in _ (by omega)
      have V5 : IntKind.i64.wrap ((v4 - v3 + off) * (1000000 + v6) * U) = (v4 - v3 + off) * (1000000 + v6) * U := IntWalk.i64_in _ (by omega)
      clear m1 m2 d1 d2 ha HA HD
      go_wp2_with fail
      obtain ⟨W4, hW4⟩ : ∃ X, X = wc := ⟨_, rfl⟩
      rw [← hW4] at hTz HG hglt ⊢
      clear hW4
      have hCC : ∀ A B : World, Two zb (w.heap.size + 1 + 1 + 1) W4 A → Below A.heap.size A B → Two zb (w.heap.size + 1 + 1 + 1) W4 B := fun A B h1 h2 => h1.below h2
      have hzl4 : zb < W4.heap.size := hTz.box.lt
      have hsz4 : W.heap.size ≤ W4.heap.size := hTz.two.size
      have LK4 := Lib.hid (Two.box hTz.two LK.out (by omega) (by omega))
      have LR4 := Lib.hid (Two.box hTz.two LR.out (by omega) (by omega))
      have HB4 := Lib.hid (Two.box hTz.two HB.out (by omega) (by omega))
      have hTr : Tr zb 5 w W4 W4.drew := ⟨below_drewN hTz.low 1, (Two.refl _ _ _).drew, hTz.box.drew⟩
      clear hTz LK LR HB
      have hC0 := hTr.two.weak (w.heap.size + 1 + 1 + 1)
      refine wp_region_garb (Two zb (w.heap.size + 1 + 1 + 1) W4) (by kernel_rfl) ?_
      (refine wpAnyG_take (i := 0) hCC hC0 rfl (by kernel_rfl) (by kernel_rfl) (by kernel_rfl) (fun _ _ _ _ h => h) (by rfl) ?_; apply Exists.intro; refine ⟨fun w1 h1 K hK => ?_, ?_⟩; · ( go_big_quiet_op; first | exact hK | fail))
      (refine wpAnyG_take (i := 1) hCC hC0 rfl (by kernel_rfl) (by kernel_rfl) (by kernel_rfl) (fun _ _ _ _ h => h) (by rfl) ?_; apply Exists.intro; refine ⟨fun w1 h1 K hK => ?_, ?_⟩; · ( go_big_quiet_op; first | exact hK | fail))
      (refine wpAnyG_take (i := 2) hCC hC0 rfl (by kernel_rfl) (by kernel_rfl) (by kernel_rfl) (fun _ _ _ _ h => h) (by rfl) ?_; apply Exists.intro; refine ⟨fun w1 h1 K hK => ?_, ?_⟩; · ( go_big_quiet_op; first | exact hK | fail))
      (refine wpAnyG_take (i := 3) hCC hC0 rfl (by kernel_rfl) (by kernel_rfl) (by kernel_rfl) (fun _ _ _ _ h => h) (by rfl) ?_; apply Exists.intro; refine ⟨fun w1 h1 K hK => ?_, ?_⟩; · ( go_big_quiet_op; first | exact hK | fail))
      (refine wpAnyG_take (i := 4) hCC hC0 rfl (by kernel_rfl) (by kernel_rfl) (by kernel_rfl) (fun _ _ _ _ h => h) (by rfl) ?_; apply Exists.intro; refine ⟨fun w1 h1 K hK => ?_, ?_⟩; · ( go_big_quiet_op; first | exact hK | fail))
      (refine wpAnyG_take (i := 5) hCC hC0 rfl (by kernel_rfl) (by kernel_rfl) (by kernel_rfl) (fun _ _ _ _ h => h) (by rfl) ?_; apply Exists.intro; refine ⟨fun w1 h1 K hK => ?_, ?_⟩; · ( go_big_quiet_op; first | exact hK | fail))
      (refine wpAnyG_take (i := 6) hCC hC0 rfl (by kernel_rfl) (by kernel_rfl) (by kernel_rfl) (fun _ _ _ _ h => h) (by rfl) ?_; apply Exists.intro; refine ⟨fun w1 h1 K hK => ?_, ?_⟩; · ( go_big_quiet_op; first | exact hK | fail))
      (refine wpAnyG_take (i := 7) hCC hC0 rfl (by kernel_rfl) (by kernel_rfl) (by kernel_rfl) (fun _ _ _ _ h => h) (by rfl) ?_; apply Exists.intro; refine ⟨fun w1 h1 K hK => ?_, ?_⟩; · (have f := fun W9 : Aft w1 => Two.box (h1.below W9.below) HB4.out (by omega) (by omega); have f3 : ∀ W : Aft w1, W.val.cell? ⟨w.heap.size, 3, none⟩ = some (.int .i64 b.buoy.lo) := fun W => (f W).cell 3 rfl; have f4 : ∀ W : Aft w1, W.val.cell? ⟨w.heap.size, 4, none⟩ = some (.int .i64 b.buoy.hi) := fun W => (f W).cell 4 rfl; go_big_quiet_op; first | exact hK | fail))
      (refine wpAnyG_take (i := 11) hCC hC0 rfl (by kernel_rfl) (by kernel_rfl) (by kernel_rfl) (fun _ _ _ _ h => h) (by rfl) ?_; apply Exists.intro; refine ⟨fun w1 h1 K hK => ?_, ?_⟩; · ( go_big_quiet_op; first | exact hK | fail))
      (refine wpAnyG_take (i := 12) hCC hC0 rfl (by kernel_rfl) (by kernel_rfl) (by kernel_rfl) (fun _ _ _ _ h => h) (by rfl) ?_; apply Exists.intro; refine ⟨fun w1 h1 K hK => ?_, ?_⟩; · (have f := fun W9 : Aft w1 => Two.box (h1.below W9.below) HG.out (by omega) (by omega); have f1 : ∀ W : Aft w1, W.val.cell? ⟨g, 1, none⟩ = some (.int .i64 U) := fun W => (f W).cell 1 rfl; go_big_quiet_op; first | exact hK | fail))
      (refine wpAnyG_take (i := 14) hCC hC0 rfl (by kernel_rfl) (by kernel_rfl) (by kernel_rfl) (fun _ _ _ _ h => h) (by rfl) ?_; apply Exists.intro; refine ⟨fun w1 h1 K hK => ?_, ?_⟩; · ( go_big_quiet_op; first | exact hK | fail))
      (refine wpAnyG_take (i := 15) hCC hC0 rfl (by kernel_rfl) (by kernel_rfl) (by kernel_rfl) (fun _ _ _ _ h => h) (by rfl) ?_; apply Exists.intro; refine ⟨fun w1 h1 K hK => ?_, ?_⟩; · (have f := fun W9 : Aft w1 => Two.box (h1.below W9.below) HG.out (by omega) (by omega); have f0 : ∀ W : Aft w1, W.val.cell? ⟨g, 0, none⟩ = some (.int .i64 T) := fun W => (f W).cell 0 rfl; go_big_quiet_op; first | exact hK | fail))
      (refine wpAnyG_one (i := 8) (by kernel_rfl) rfl (by rfl) (fun wa hwa K hK => ?_))
      go_simp
      have hTa := hTr.below hwa
      refine (draw_at 6 b.buoy zb _ 5 ka kn kc q _ rfl u2 (by omega) (by omega) hkn hkn2 hTa.box (Two.box hTa.two LK4.out (by omega) (by omega)) (by omega) (HQ.out.mono hTa.low) HKZ.out).mono ?_
      rintro e wb ⟨rfl, hz9⟩
      rw [← Hv6.out]
      have hTb := hTa.zed (by omega) hz9
      clear hTr hTa hz9 hwa hC0
      have hTr := hTb
      have hC0 := hTr.two.weak (w.heap.size + 1 + 1 + 1)
      clear hTb
      refine hK _ _ hC0 ?_
      clear hK K
      (refine wpAnyG_take (i := 9) hCC hC0 rfl (by kernel_rfl) (by kernel_rfl) (by kernel_rfl) (fun _ _ _ _ h => h) (by rfl) ?_; apply Exists.intro; refine ⟨fun w1 h1 K hK => ?_, ?_⟩; · ( go_big_quiet_op; first | exact hK | fail))
      (refine wpAnyG_take (i := 10) hCC hC0 rfl (by kernel_rfl) (by kernel_rfl) (by kernel_rfl) (fun _ _ _ _ h => h) (by rfl) ?_; apply Exists.intro; refine ⟨fun w1 h1 K hK => ?_, ?_⟩; · ( go_big_quiet_op; first | exact hK | fail))
      (refine wpAnyG_take (i := 13) hCC hC0 rfl (by kernel_rfl) (by kernel_rfl) (by kernel_rfl) (fun _ _ _ _ h => h) (by rfl) ?_; apply Exists.intro; refine ⟨fun w1 h1 K hK => ?_, ?_⟩; · ( go_big_quiet_op; first | exact hK | fail))
      (refine wpAnyG_take (i := 16) hCC hC0 rfl (by kernel_rfl) (by kernel_rfl) (by kernel_rfl) (fun _ _ _ _ h => h) (by rfl) ?_; apply Exists.intro; refine ⟨fun w1 h1 K hK => ?_, ?_⟩; · ( go_big_quiet_op; first | exact hK | fail))
      (refine wpAnyG_one (i := 17) (by kernel_rfl) rfl (by rfl) (fun wb hwb K hK => ?_))
      refine wp_store_box (Two.box (hTr.below hwb).two LR4.out (by omega) (by omega)) rfl rfl rfl rfl (by kernel_rfl) (by simp [Value.oneCell']) (fun wc9 sb ho => ?_); dsimp only [Act.put]
      have hlow := hTr.low.trans ((hwb.mono hTr.low.size).trans (ho.below (by omega)))
      refine hK _ _ ((hC0.below hwb).onlyQ ho) ?_
      clear hK K
      refine wpAnyG_done (by kernel_rfl) (fun wz hwz => ?_) _
      have hlz := hlow.trans (hwz.mono hlow.size)
      have sz := sb.below hwz
      clear hlow hwz sb ho hwb hTr hC0
      have q0 := sz.cell 0 rfl
      have q1 := sz.cell 1 rfl
      simp only [List.getElem_toArray, List.getElem_cons_zero, List.getElem_cons_succ] at q0 q1
      clear sz
      go_wp2_with fail
      refine bodyPost_ret (v := .agg #[.int .i64 ((v4 - v3 + off) * (1000000 + v6) * U), .int .i64 T]) (by simp [results, Try.results25, go_sem, q0, q1]) rfl ⟨by rw [HR.out], hlz⟩
  | false =>
    obtain ⟨⟨s1, s2⟩, s3, s4⟩ := HTK.out hw
    rw [hw] at b0
    have HW := Lib.hid hw
    clear hw
    go_upto_region 8 with fail
    clear b0 b1 b2 b3 b4 b5 b6 b7
    have HA := Lib.hid (at_dense HVT.out (show (b.t 0).at_ ≤ v3 by omega) (show v3 ≤ (b.t (b.n - 1)).at_ by omega))
    have HC9 := Lib.hid (at_dense HVT.out (show (b.t 0).at_ ≤ v4 by omega) (show v4 ≤ (b.t (b.n - 1)).at_ by omega))
    obtain ⟨W3, hW3⟩ : ∃ X, X = wz := ⟨_, rfl⟩
    rw [← hW3] at hTz ⊢
    clear hW3
    go_cut [13, 14] (fun s13 s14 wx => ∃ g h, s13 = .pointer (some ⟨g, 0, none⟩) ∧ s14 = .pointer (some ⟨h, 0, none⟩) ∧ W.heap.size ≤ g ∧ W.heap.size ≤ h ∧ Box g #[.int .i64 (tabAt b.n b.t v3).top, .int .i64 (tabAt b.n b.t v3).under] 50 wx ∧ Box h #[.int .i64 (tabAt b.n b.t v4).top, .int .i64 (tabAt b.n b.t v4).under] 50 wx ∧ Tr zb 4 w W wx)
    case first =>
      have hTr : Tr zb 4 w W W3.drew := ⟨below_drewN hTz.low 1, hTz.two.drew, hTz.box.drew⟩
      clear hTz
      have hC0 := hTr.two
      refine wp_region_garb (Two zb zb W) (by kernel_rfl) ?_
      (refine wpAnyG_take (i := 0) hCC hC0 rfl (by kernel_rfl) (by kernel_rfl) (by kernel_rfl) (fun _ _ _ _ h => h) (by rfl) ?_; apply Exists.intro; refine ⟨fun w1 h1 K hK => ?_, ?_⟩; · (have f := fun W9 : Aft w1 => Two.box (h1.below W9.below) HB.out (by omega) (by omega); have f0 : ∀ W : Aft w1, W.val.cell? ⟨w.heap.size, 0, none⟩ = some (.bool b.weighs) := fun W => (f W).cell 0 rfl; have f1 : ∀ W : Aft w1, W.val.cell? ⟨w.heap.size, 1, none⟩ = some (.slice oa b.n cap) := fun W => (f W).cell 1 rfl; have f2 : ∀ W : Aft w1, W.val.cell? ⟨w.heap.size, 2, none⟩ = some (.int .i64 b.off) := fun W => (f W).cell 2 rfl; have f3 : ∀ W : Aft w1, W.val.cell? ⟨w.heap.size, 3, none⟩ = some (.int .i64 b.buoy.lo) := fun W => (f W).cell 3 rfl; have f4 : ∀ W : Aft w1, W.val.cell? ⟨w.heap.size, 4, none⟩ = some (.int .i64 b.buoy.hi) := fun W => (f W).cell 4 rfl; have f5 : ∀ W : Aft w1, W.val.cell? ⟨w.heap.size, 5, none⟩ = some (.int .i64 b.air.lo) := fun W => (f W).cell 5 rfl; have f6 : ∀ W : Aft w1, W.val.cell? ⟨w.heap.size, 6, none⟩ = some (.int .i64 b.air.hi) := fun W => (f W).cell 6 rfl; go_big_quiet_op; first | exact hK | fail))
      (refine wpAnyG_take (i := 1) hCC hC0 rfl (by kernel_rfl) (by kernel_rfl) (by kernel_rfl) (fun _ _ _ _ h => h) (by rfl) ?_; apply Exists.intro; refine ⟨fun w1 h1 K hK => ?_, ?_⟩; · ( go_big_quiet_op; first | exact hK | fail))
      (refine wpAnyG_take (i := 2) hCC hC0 rfl (by kernel_rfl) (by kernel_rfl) (by kernel_rfl) (fun _ _ _ _ h => h) (by rfl) ?_; apply Exists.intro; refine ⟨fun w1 h1 K hK => ?_, ?_⟩; · ( go_big_quiet_op; first | exact hK | exact ⟨_, fun W9 => aft_call (refAt_any b oa cap v3 _ HVT.out (HT.out.two hbW (h1.below W9.below) (by omega)) (by omega) (by omega)), hK⟩))
      (refine wpAnyG_take (i := 3) hCC hC0 rfl (by kernel_rfl) (by kernel_rfl) (by kernel_rfl) (fun _ _ _ _ h => h) (by rfl) ?_; apply Exists.intro; refine ⟨fun w1 h1 K hK => ?_, ?_⟩; · (have f := fun W9 : Aft w1 => Two.box (h1.below W9.below) HB.out (by omega) (by omega); have f0 : ∀ W : Aft w1, W.val.cell? ⟨w.heap.size, 0, none⟩ = some (.bool b.weighs) := fun W => (f W).cell 0 rfl; have f1 : ∀ W : Aft w1, W.val.cell? ⟨w.heap.size, 1, none⟩ = some (.slice oa b.n cap) := fun W => (f W).cell 1 rfl; have f2 : ∀ W : Aft w1, W.val.cell? ⟨w.heap.size, 2, none⟩ = some (.int .i64 b.off) := fun W => (f W).cell 2 rfl; have f3 : ∀ W : Aft w1, W.val.cell? ⟨w.heap.size, 3, none⟩ = some (.int .i64 b.buoy.lo) := fun W => (f W).cell 3 rfl; have f4 : ∀ W : Aft w1, W.val.cell? ⟨w.heap.size, 4, none⟩ = some (.int .i64 b.buoy.hi) := fun W => (f W).cell 4 rfl; have f5 : ∀ W : Aft w1, W.val.cell? ⟨w.heap.size, 5, none⟩ = some (.int .i64 b.air.lo) := fun W => (f W).cell 5 rfl; have f6 : ∀ W : Aft w1, W.val.cell? ⟨w.heap.size, 6, none⟩ = some (.int .i64 b.air.hi) := fun W => (f W).cell 6 rfl; go_big_quiet_op; first | exact hK | fail))
      (refine wpAnyG_take (i := 4) hCC hC0 rfl (by kernel_rfl) (by kernel_rfl) (by kernel_rfl) (fun _ _ _ _ h => h) (by rfl) ?_; apply Exists.intro; refine ⟨fun w1 h1 K hK => ?_, ?_⟩; · ( go_big_quiet_op; first | exact hK | fail))
      (refine wpAnyG_take (i := 5) hCC hC0 rfl (by kernel_rfl) (by kernel_rfl) (by kernel_rfl) (fun _ _ _ _ h => h) (by rfl) ?_; apply Exists.intro; refine ⟨fun w1 h1 K hK => ?_, ?_⟩; · ( go_big_quiet_op; first | exact hK | exact ⟨_, fun W9 => aft_call (refAt_any b oa cap v4 _ HVT.out (HT.out.two hbW (h1.below W9.below) (by omega)) (by omega) (by omega)), hK⟩))
      (refine wpAnyG_two (i := 6) (k := 7) (by kernel_rfl) rfl rfl (by rfl) (by rfl) (fun wa hwa K hK => ?_) (fun wa hwa K hK => ?_))
      · go_simp
        have sG1 := Box.new (g := wa.heap.size) #[.int .i64 0, .int .i64 0] 50 wa rfl
        have hTa := (hTr.below hwa).below (below_alloc1 wa (.cells #[.int .i64 0, .int .i64 0] 50))
        have hlG1 : W.heap.size ≤ wa.heap.size := Nat.le_trans hTr.two.size hwa.size
        clear hTr hwa hC0
        have hTr := hTa
        have hC0 := hTr.two
        clear hTa
        refine hK _ _ hC0 ?_
        clear hK K
        obtain ⟨G1, hG⟩ : ∃ G, G = wa.heap.size := ⟨_, rfl⟩
        obtain ⟨wA, hWA⟩ : ∃ X, X = wa.alloc (.cells #[.int .i64 0, .int .i64 0] 50) := ⟨_, rfl⟩
        rw [← hG] at sG1 hlG1 ⊢
        rw [← hWA] at sG1 hTr hC0 ⊢
        clear hG hWA
        (refine wpAnyG_one (i := 7) (by kernel_rfl) rfl (by rfl) (fun wa hwa K hK => ?_))
        go_simp
        have hne9 : wa.heap.size ≠ G1 := by have := (sG1.below hwa).lt; omega
        have sH1 := (sG1.below hwa).old (.cells #[.int .i64 0, .int .i64 0] 50)
        have sG2 := Box.new (g := wa.heap.size) #[.int .i64 0, .int .i64 0] 50 wa rfl
        have hTa := (hTr.below hwa).below (below_alloc1 wa (.cells #[.int .i64 0, .int .i64 0] 50))
        have hlG2 : W.heap.size ≤ wa.heap.size := Nat.le_trans hTr.two.size hwa.size
        clear hTr hwa hC0
        have hTr := hTa
        have hC0 := hTr.two
        clear hTa
        refine hK _ _ hC0 ?_
        clear hK K
        obtain ⟨G2, hG⟩ : ∃ G, G = wa.heap.size := ⟨_, rfl⟩
        rw [← hG] at hne9
        obtain ⟨wA, hWA⟩ : ∃ X, X = wa.alloc (.cells #[.int .i64 0, .int .i64 0] 50) := ⟨_, rfl⟩
        rw [← hG] at sG2 hlG2 ⊢
        rw [← hWA] at sH1 sG2 hTr hC0 ⊢
        clear hG hWA
        (refine wpAnyG_one (i := 8) (by kernel_rfl) rfl (by rfl) (fun wb hwb K hK => ?_))
        refine wp_store_box (sH1.below hwb) rfl rfl rfl rfl (by kernel_rfl) (by simp [Value.oneCell']) (fun wc sa ho => ?_); dsimp only [Act.put]
        have hTa := (hTr.below hwb)
        have hTb : Tr zb 4 w W wc := ⟨hTa.low.trans (ho.below (by omega)), ⟨(by rw [ho.size]; exact hTa.two.size), fun k hk h9 h8 => (ho.block k (by omega)).trans (hTa.two.block k hk h9 h8)⟩, ho.box hTa.box (by omega)⟩
        have sB := ho.box (sG2.below hwb) (by omega)
        clear hTr hTa hC0 ho hwb
        have hTr := hTb
        have hC0 := hTr.two
        clear hTb
        refine hK _ _ hC0 ?_
        clear hK K
        (refine wpAnyG_one (i := 9) (by kernel_rfl) rfl (by rfl) (fun wb hwb K hK => ?_))
        refine wp_store_box (sB.below hwb) rfl rfl rfl rfl (by kernel_rfl) (by simp [Value.oneCell']) (fun wc sc ho => ?_); dsimp only [Act.put]
        have hTa := (hTr.below hwb)
        have hTb : Tr zb 4 w W wc := ⟨hTa.low.trans (ho.below (by omega)), ⟨(by rw [ho.size]; exact hTa.two.size), fun k hk h9 h8 => (ho.block k (by omega)).trans (hTa.two.block k hk h9 h8)⟩, ho.box hTa.box (by omega)⟩
        have sA := ho.box (sa.below hwb) (by omega)
        clear hTr hTa hC0 ho hwb
        have hTr := hTb
        have hC0 := hTr.two
        clear hTb
        refine hK _ _ hC0 ?_
        clear hK K
        refine wpAnyG_done (by kernel_rfl) (fun wz hwz => ?_) _
        go_wp2_with fail
        go_meet
        exact ⟨G1, G2, rfl, rfl, hlG1, hlG2, sA.below hwz, sc.below hwz, hTr.below hwz⟩
      · go_simp
        have sG1 := Box.new (g := wa.heap.size) #[.int .i64 0, .int .i64 0] 50 wa rfl
        have hTa := (hTr.below hwa).below (below_alloc1 wa (.cells #[.int .i64 0, .int .i64 0] 50))
        have hlG1 : W.heap.size ≤ wa.heap.size := Nat.le_trans hTr.two.size hwa.size
        clear hTr hwa hC0
        have hTr := hTa
        have hC0 := hTr.two
        clear hTa
        refine hK _ _ hC0 ?_
        clear hK K
        obtain ⟨G1, hG⟩ : ∃ G, G = wa.heap.size := ⟨_, rfl⟩
        obtain ⟨wA, hWA⟩ : ∃ X, X = wa.alloc (.cells #[.int .i64 0, .int .i64 0] 50) := ⟨_, rfl⟩
        rw [← hG] at sG1 hlG1 ⊢
        rw [← hWA] at sG1 hTr hC0 ⊢
        clear hG hWA
        (refine wpAnyG_one (i := 6) (by kernel_rfl) rfl (by rfl) (fun wa hwa K hK => ?_))
        go_simp
        have hne9 : wa.heap.size ≠ G1 := by have := (sG1.below hwa).lt; omega
        have sH1 := (sG1.below hwa).old (.cells #[.int .i64 0, .int .i64 0] 50)
        have sG2 := Box.new (g := wa.heap.size) #[.int .i64 0, .int .i64 0] 50 wa rfl
        have hTa := (hTr.below hwa).below (below_alloc1 wa (.cells #[.int .i64 0, .int .i64 0] 50))
        have hlG2 : W.heap.size ≤ wa.heap.size := Nat.le_trans hTr.two.size hwa.size
        clear hTr hwa hC0
        have hTr := hTa
        have hC0 := hTr.two
        clear hTa
        refine hK _ _ hC0 ?_
        clear hK K
        obtain ⟨G2, hG⟩ : ∃ G, G = wa.heap.size := ⟨_, rfl⟩
        rw [← hG] at hne9
        obtain ⟨wA, hWA⟩ : ∃ X, X = wa.alloc (.cells #[.int .i64 0, .int .i64 0] 50) := ⟨_, rfl⟩
        rw [← hG] at sG2 hlG2 ⊢
        rw [← hWA] at sH1 sG2 hTr hC0 ⊢
        clear hG hWA
        (refine wpAnyG_one (i := 8) (by kernel_rfl) rfl (by rfl) (fun wb hwb K hK => ?_))
        refine wp_store_box (sG2.below hwb) rfl rfl rfl rfl (by kernel_rfl) (by simp [Value.oneCell']) (fun wc sa ho => ?_); dsimp only [Act.put]
        have hTa := (hTr.below hwb)
        have hTb : Tr zb 4 w W wc := ⟨hTa.low.trans (ho.below (by omega)), ⟨(by rw [ho.size]; exact hTa.two.size), fun k hk h9 h8 => (ho.block k (by omega)).trans (hTa.two.block k hk h9 h8)⟩, ho.box hTa.box (by omega)⟩
        have sB := ho.box (sH1.below hwb) (by omega)
        clear hTr hTa hC0 ho hwb
        have hTr := hTb
        have hC0 := hTr.two
        clear hTb
        refine hK _ _ hC0 ?_
        clear hK K
        (refine wpAnyG_one (i := 9) (by kernel_rfl) rfl (by rfl) (fun wb hwb K hK => ?_))
        refine wp_store_box (sB.below hwb) rfl rfl rfl rfl (by kernel_rfl) (by simp [Value.oneCell']) (fun wc sc ho => ?_); dsimp only [Act.put]
        have hTa := (hTr.below hwb)
        have hTb : Tr zb 4 w W wc := ⟨hTa.low.trans (ho.below (by omega)), ⟨(by rw [ho.size]; exact hTa.two.size), fun k hk h9 h8 => (ho.block k (by omega)).trans (hTa.two.block k hk h9 h8)⟩, ho.box hTa.box (by omega)⟩
        have sA := ho.box (sa.below hwb) (by omega)
        clear hTr hTa hC0 ho hwb
        have hTr := hTb
        have hC0 := hTr.two
        clear hTb
        refine hK _ _ hC0 ?_
        clear hK K
        refine wpAnyG_done (by kernel_rfl) (fun wz hwz => ?_) _
        go_wp2_with fail
        go_meet
        exact ⟨G2, G1, rfl, rfl, hlG2, hlG1, sA.below hwz, sc.below hwz, hTr.below hwz⟩
    case rest =>
      obtain ⟨g, g', rfl, rfl, hgl, hgl', hG, hG', hTz⟩ := hcut
      have HR := Lib.hid (show (truthF b x fun j => q (j % kn)) = (tabAt b.n b.t v4).minus (tabAt b.n b.t v3) (-off) by
        unfold truthF truthT
        rw [if_neg (by rw [HW.out]; simp), Hv3.out, Hv4.out, HOFF.out])
      have M1 := Lib.hid (minus_bd HC9.out HA.out (n := off) (by omega))
      have M2 := Lib.hid (minus_bd HA.out HC9.out (n := off) (by omega))
      obtain ⟨⟨aT, aU⟩, ha⟩ : ∃ a, a = tabAt b.n b.t v3 := ⟨_, rfl⟩
      obtain ⟨⟨cT, cU⟩, hc⟩ : ∃ a, a = tabAt b.n b.t v4 := ⟨_, rfl⟩
      rw [← ha, ← hc] at HR M1 M2
      rw [← ha] at hG
      rw [← hc] at hG'
      dsimp only at hG hG'
      clear ha hc
      obtain ⟨n1, n2, -, -, -⟩ := M1.out
      obtain ⟨-, -, n3, n4, n5⟩ := M2.out
      dsimp only at n1 n2 n3 n4 n5
      have V1 : IntKind.i64.wrap (cT * aU) = cT * aU := IntWalk.i64_in _ (by omega)
      have V2 : IntKind.i64.wrap (aT * cU) = aT * cU := IntWalk.i64_in _ (by omega)
      have V3 : IntKind.i64.wrap (cT * aU - aT * cU) = cT * aU - aT * cU := IntWalk.i64_in _ (by omega)
      have V4 : IntKind.i64.wrap (off * aU) = off * aU := IntWalk.i64_in _ (by omega)
      have V5 : IntKind.i64.wrap (off * aU * cU) = off * aU * cU := IntWalk.i64_in _ (by omega)
      have V6 : IntKind.i64.wrap (cT * aU - aT * cU + off * aU * cU) = cT * aU - aT * cU + off * aU * cU := IntWalk.i64_in _ (by omega)
      have V7 : IntKind.i64.wrap (aU * cU) = aU * cU := IntWalk.i64_in _ (by omega)
      clear M1 M2
      have HE := Lib.hid (show (Frac.minus ⟨cT, cU⟩ ⟨aT, aU⟩ (-off)) = ⟨cT * aU - aT * cU + off * aU * cU, aU * cU⟩ by
        simp only [Frac.minus, Frac.mk.injEq]
        refine ⟨?_, Int.mul_comm _ _⟩
        rw [Int.neg_mul, Int.neg_mul, Int.mul_right_comm off cU aU]
        omega)
      have KR := Two.box hTz.two LR.out (by omega) (by omega)
      have r0 := KR.cell 0 rfl
      have r1 := KR.cell 1 rfl
      have r2 := KR.frozen 0
      have r3 := KR.frozen 1
      have rl := KR.lt
      have c0 := hG.cell 0 rfl
      have c1 := hG.cell 1 rfl
      have c2 := hG'.cell 0 rfl
      have c3 := hG'.cell 1 rfl
      have hlz := hTz.low
      simp only [List.getElem_toArray, List.getElem_cons_zero, List.getElem_cons_succ] at r0 r1 c0 c1 c2 c3
      clear KR hG hG' hTz n1 n2 n3 n4 n5
      go_wp2_with fail
      have pq := put2 r0 r1 (.int .i64 (cT * aU - aT * cU + off * aU * cU)) (.int .i64 (aU * cU))
      refine bodyPost_ret (v := .agg #[.int .i64 (cT * aU - aT * cU + off * aU * cU), .int .i64 (aU * cU)]) (by simp [results, Try.results25, go_sem, pq.1, pq.2]) rfl ⟨by rw [HR.out, HE.out], (hlz.setCell (by dsimp only; omega) _).setCell (by dsimp only; omega) _⟩
end Go.Proofs.Ythoefcpeagclbaa
