/- The walk of BenchMore. -/
import Derived.Test.YthoefcpeagclbaaLv
import Derived.Test.YthoefcpeagclbaaP12
import Derived.Test.YthoefcpeagclbaaW41
namespace Go.Proofs.Ythoefcpeagclbaa
open Go.RowKit
theorem Finer.test {b b' : Bnch} {x y : Ctch} {m : Nat} {r : Nat → Spn} (h : Finer b b' x y) (hz : (b.testR x m r).2 = 0) : b'.testR y m r = ((b'.waterR y).1, 0) := by
  rcases testR_form b x m r with ⟨-, h1⟩ | ⟨-, h1, h2, h3, h4⟩
  · omega
  · unfold Bnch.testR
    rw [if_pos (h.span h1).1, if_neg (by omega), if_neg]
    intro ha
    obtain ⟨i, hi, h9⟩ := anyB_iff.1 ha
    have := h4 i hi
    simp [badS, spanB] at h9
    omega
theorem stash {G : Prop} (F : Nat → Nat → World → Prop) {R : Nat → Nat → World → Prop} (h : (∀ gb gc wz, F gb gc wz → R gb gc wz) → G) (hp : ∀ gb gc wz, F gb gc wz → R gb gc wz) : G := h hp
set_option maxRecDepth 100000 in
set_option maxHeartbeats 16000000 in
theorem more_of (b : Bnch) (x : Ctch) (oa : Option Addr) (cap : Nat) (or : Option Addr) (m cr : Nat) (r : Nat → Spn) (most : Int) (by8 cut : Nat) (w : World) (hcap : b.n ≤ cap) (hT : MarksAt w oa b.n b.t) (hm : m ≤ 9223372036854775807) (hR : SpnsAt w or m r) (hby : by8 < 256) (hcut : cut < 65536) :
    Calls Try.prog 8 #[b.val oa cap, x.val, .slice or m cr, .int .i64 most, .int .u8 (by8 : Nat), .int .u16 (cut : Nat)] w (TrueEnd w) := by
  have HT := Lib.hid hT
  have HR := Lib.hid hR
  have HM := Lib.hid hm
  clear hT hR hm
  go_enter Try.func8, Try.ntmps8
  go_wp2_with fail
  have hL : Lv w b oa cap x (two 26 b oa cap x w) := ⟨two_below 26 b oa cap x w, two_bench 26 b oa cap x w, two_catch 26 b oa cap x w⟩
  obtain ⟨W, hW⟩ : ∃ X, X = (two 26 b oa cap x w) := ⟨_, rfl⟩
  rw [← hW] at hL
  simp only [two] at hW
  rw [← hW]
  clear hW
  have L_0 := Lib.hid hL
  clear hL
  refine (large_any b oa cap or m cr r 4611686018427387904 _ (HR.out.mono L_0.out.low) HM.out).mono ?_
  rintro e w1 ⟨rfl, hb1⟩
  have L_1 := Lib.hid (L_0.out.below hb1)
  clear L_0 hb1
  rcases hl : largeR b m r 4611686018427387904
  case true =>
    clear hl
    go_wp2_with fail
    refine (awake_any _).mono ?_
    rintro e wz ⟨rfl, hbz⟩
    go_wp2
    go_ret
    exact ⟨rfl, L_1.out.low.trans (hbz.mono L_1.out.low.size)⟩
  have hn := (large_no hl).1
  have hm := (large_no hl).2.1
  clear hl
  obtain ⟨b0, b1, b2, b3, b4, b5, b6, b7⟩ := BB.cells (b := b) L_1.out.B
  obtain ⟨c0, c1, c2, c3, c4, c5, c6⟩ := CB.cells (x := x) L_1.out.X
  go_wp2_with fail
  refine (Water_any b x oa cap _ (by omega) hcap (HT.out.mono L_1.out.low)).mono ?_
  rintro e w2 ⟨rfl, hb2⟩
  obtain ⟨v, hv⟩ : ∃ v, v = (b.waterR x).1 := ⟨_, rfl⟩
  obtain ⟨ve, hve⟩ : ∃ v, v = (b.waterR x).2 := ⟨_, rfl⟩
  rw [← hv, ← hve]
  have HV := Lib.hid hv
  have HVE := Lib.hid hve
  clear hv hve
  clear b0 b1 b2 b3 b4 b5 b6 b7 c0 c1 c2 c3 c4 c5 c6
  have hbE := hb2.alloc hb2.size (.cells #[.int .i64 v.lo, .int .i64 v.hi] 24)
  have T9 := Box.new (g := w2.heap.size) #[.int .i64 v.lo, .int .i64 v.hi] 24 w2 rfl
  have L_2 := Lib.hid (L_1.out.below hbE)
  clear L_1 hbE
  clear hb2
  go_upto_region 4 with fail
  obtain ⟨g13, hg⟩ : ∃ n, n = w2.heap.size := ⟨_, rfl⟩
  obtain ⟨W2, hW⟩ : ∃ X, X = w2.alloc (.cells #[.int .i64 v.lo, .int .i64 v.hi] 24) := ⟨_, rfl⟩
  rw [← hW] at L_2 T9 ⊢
  rw [← hg] at T9 ⊢
  clear hW hg
  have K13_0 := Lib.hid T9
  clear T9
  obtain ⟨b0, b1, b2, b3, b4, b5, b6, b7⟩ := BB.cells (b := b) L_2.out.B
  obtain ⟨c0, c1, c2, c3, c4, c5, c6⟩ := CB.cells (x := x) L_2.out.X
  go_wp2_with fail
  refine (Errors_any b x oa cap or m cr r _ (by omega) hcap (HT.out.mono L_2.out.low) (by omega) (HR.out.mono L_2.out.low)).mono ?_
  rintro e w3 ⟨o1, p1, rfl, hS1, hb3⟩
  clear b0 b1 b2 b3 b4 b5 b6 b7 c0 c1 c2 c3 c4 c5 c6
  have L_3 := Lib.hid (L_2.out.below hb3)
  have K13_1 := Lib.hid (K13_0.out.below hb3)
  clear L_2 K13_0 hb3
  have HS1_0 := Lib.hid hS1
  clear hS1
  obtain ⟨b0, b1, b2, b3, b4, b5, b6, b7⟩ := BB.cells (b := b) L_3.out.B
  obtain ⟨c0, c1, c2, c3, c4, c5, c6⟩ := CB.cells (x := x) L_3.out.X
  go_wp2_with fail
  refine (Passed_any b x oa cap or m cr r most _ (by omega) hcap (HT.out.mono L_3.out.low) (by omega) (HR.out.mono L_3.out.low)).mono ?_
  rintro e w4 ⟨o2, p2, rfl, hS2, hb4⟩
  clear b0 b1 b2 b3 b4 b5 b6 b7 c0 c1 c2 c3 c4 c5 c6
  have L_4 := Lib.hid (L_3.out.below hb4)
  have K13_2 := Lib.hid (K13_1.out.below hb4)
  have HS1_1 := Lib.hid (HS1_0.out.mono hb4)
  clear L_3 K13_1 HS1_0 hb4
  have HS2_0 := Lib.hid hS2
  clear hS2
  by_cases hte : (b.testR x m r).2 = 0
  case neg =>
    have hpe : passE (b.testR x m r).2 most = (b.testR x m r).2 := if_neg hte
    rw [hpe, cnt_ne hte]
    generalize (b.testR x m r).2 = te at hte ⊢
    have hne : (te != 0) = true := by simpa using hte
    clear hte hpe HV HVE HS1_1 HS2_0 K13_2
    by_cases hz : ve = 0
    · have hz2 : (ve != 0) = false := by simpa using hz
      clear hz
      go_wp2_with fail
      refine (awake_any _).mono ?_
      rintro e wz ⟨rfl, hbz⟩
      go_wp2
      go_ret
      exact ⟨rfl, L_4.out.low.trans (hbz.mono L_4.out.low.size)⟩
    · have hz2 : (ve != 0) = true := by simpa using hz
      clear hz
      go_wp2_with fail
      refine (awake_any _).mono ?_
      rintro e wz ⟨rfl, hbz⟩
      go_wp2
      go_ret
      exact ⟨rfl, L_4.out.low.trans (hbz.mono L_4.out.low.size)⟩
  obtain ⟨-, he, tv, tm, trow⟩ := (testR_form b x m r).resolve_left (fun h9 => by omega)
  have hve := HVE.out
  rw [he] at hve
  subst hve
  rw [← HV.out] at tv
  rw [hte, tv, cnt_zero] at HS1_1
  rw [hte, tv] at HS2_0
  rw [hte, cnt_zero]
  have HTE := Lib.hid hte
  have HTV := Lib.hid tv
  have HE := Lib.hid he
  have HROW := Lib.hid trow
  have hv1 := (waterR_form b x).resolve_left (fun h9 => by omega)
  have hv2 := water_le he
  rw [← HV.out] at hv1 hv2
  obtain ⟨-, y1, y3, -, -⟩ := hv1
  have HOK := Lib.hid (waterR_ok he)
  clear hte he tv trow HVE
  obtain ⟨b0, b1, b2, b3, b4, b5, b6, b7⟩ := BB.cells (b := b) L_4.out.B
  obtain ⟨c0, c1, c2, c3, c4, c5, c6⟩ := CB.cells (x := x) L_4.out.X
  go_wp2_with fail
  refine (refBench_any b oa cap _ (by omega) (HT.out.mono L_4.out.low)).mono ?_
  rintro e w5 ⟨rfl, hb5⟩
  rw [HOK.out.1]
  have hn1 := (valid_all HOK.out.1).2.1
  clear b0 b1 b2 b3 b4 b5 b6 b7 c0 c1 c2 c3 c4 c5 c6
  have L_5 := Lib.hid (L_4.out.below hb5)
  have K13_3 := Lib.hid (K13_2.out.below hb5)
  have HS1_2 := Lib.hid (HS1_1.out.mono hb5)
  have HS2_1 := Lib.hid (HS2_0.out.mono hb5)
  clear L_4 K13_2 HS1_1 HS2_0 hb5
  obtain ⟨b0, b1, b2, b3, b4, b5, b6, b7⟩ := BB.cells (b := b) L_5.out.B
  obtain ⟨c0, c1, c2, c3, c4, c5, c6⟩ := CB.cells (x := x) L_5.out.X
  go_wp2_with fail
  refine (refCatch_any b x oa cap _ (by omega) (by omega) (HT.out.mono L_5.out.low)).mono ?_
  rintro e w6 ⟨rfl, hb6⟩
  rw [HOK.out.2.1]
  clear b0 b1 b2 b3 b4 b5 b6 b7 c0 c1 c2 c3 c4 c5 c6
  have L_6 := Lib.hid (L_5.out.below hb6)
  have K13_4 := Lib.hid (K13_3.out.below hb6)
  have HS1_3 := Lib.hid (HS1_2.out.mono hb6)
  have HS2_2 := Lib.hid (HS2_1.out.mono hb6)
  clear L_5 K13_3 HS1_2 HS2_1 hb6
  obtain ⟨b0, b1, b2, b3, b4, b5, b6, b7⟩ := BB.cells (b := b) L_6.out.B
  obtain ⟨c0, c1, c2, c3, c4, c5, c6⟩ := CB.cells (x := x) L_6.out.X
  go_upto_region 10 with fail
  have hCC : ∀ A B : World, Below w6.heap.size w6 A → Below A.heap.size A B → Below w6.heap.size w6 B := fun A B h1 h2 => h1.trans (h2.mono h1.size)
  have hC0 : Below w6.heap.size w6 w6.drew := (Below.refl _ _).drew
  apply stash (fun gb gc wz => Box gb #[.bool b.weighs, .slice oa b.n cap, .int .i64 b.off, .int .i64 b.buoy.lo, .int .i64 b.buoy.hi, .int .i64 b.air.lo, .int .i64 b.air.hi] 26 wz ∧ Box gc #[.int .i64 x.beg.lo, .int .i64 x.beg.hi, .int .i64 x.fin.lo, .int .i64 x.fin.hi, .int .i64 x.warm.lo, .int .i64 x.warm.hi] 28 wz ∧ Below w6.heap.size w6 wz ∧ w6.heap.size ≤ gb ∧ w6.heap.size ≤ gc ∧ gb ≠ gc)
  intro hrest
  refine wp_region_garb (Below w6.heap.size w6) (by kernel_rfl) ?_
  (refine wpAnyG_take (i := 0) hCC hC0 rfl (by kernel_rfl) (by kernel_rfl) (by kernel_rfl) (fun _ _ _ _ h => h) (by rfl) ?_; apply Exists.intro; refine ⟨fun w1 h1 K hK => ?_, ?_⟩; · (have f := fun W9 : Aft w1 => L_6.out.B.below (hCC _ _ h1 W9.below); have f0 : ∀ W : Aft w1, W.val.cell? ⟨w.heap.size, 0, none⟩ = some (.bool b.weighs) := fun W => (f W).cell 0 rfl; have f1 : ∀ W : Aft w1, W.val.cell? ⟨w.heap.size, 1, none⟩ = some (.slice oa b.n cap) := fun W => (f W).cell 1 rfl; have f2 : ∀ W : Aft w1, W.val.cell? ⟨w.heap.size, 2, none⟩ = some (.int .i64 b.off) := fun W => (f W).cell 2 rfl; have f3 : ∀ W : Aft w1, W.val.cell? ⟨w.heap.size, 3, none⟩ = some (.int .i64 b.buoy.lo) := fun W => (f W).cell 3 rfl; have f4 : ∀ W : Aft w1, W.val.cell? ⟨w.heap.size, 4, none⟩ = some (.int .i64 b.buoy.hi) := fun W => (f W).cell 4 rfl; have f5 : ∀ W : Aft w1, W.val.cell? ⟨w.heap.size, 5, none⟩ = some (.int .i64 b.air.lo) := fun W => (f W).cell 5 rfl; have f6 : ∀ W : Aft w1, W.val.cell? ⟨w.heap.size, 6, none⟩ = some (.int .i64 b.air.hi) := fun W => (f W).cell 6 rfl; go_big_quiet_op; first | exact hK | fail))
  (refine wpAnyG_take (i := 1) hCC hC0 rfl (by kernel_rfl) (by kernel_rfl) (by kernel_rfl) (fun _ _ _ _ h => h) (by rfl) ?_; apply Exists.intro; refine ⟨fun w1 h1 K hK => ?_, ?_⟩; · (have f := fun W9 : Aft w1 => L_6.out.X.below (hCC _ _ h1 W9.below); have f0 : ∀ W : Aft w1, W.val.cell? ⟨w.heap.size + 1, 0, none⟩ = some (.int .i64 x.beg.lo) := fun W => (f W).cell 0 rfl; have f1 : ∀ W : Aft w1, W.val.cell? ⟨w.heap.size + 1, 1, none⟩ = some (.int .i64 x.beg.hi) := fun W => (f W).cell 1 rfl; have f2 : ∀ W : Aft w1, W.val.cell? ⟨w.heap.size + 1, 2, none⟩ = some (.int .i64 x.fin.lo) := fun W => (f W).cell 2 rfl; have f3 : ∀ W : Aft w1, W.val.cell? ⟨w.heap.size + 1, 3, none⟩ = some (.int .i64 x.fin.hi) := fun W => (f W).cell 3 rfl; have f4 : ∀ W : Aft w1, W.val.cell? ⟨w.heap.size + 1, 4, none⟩ = some (.int .i64 x.warm.lo) := fun W => (f W).cell 4 rfl; have f5 : ∀ W : Aft w1, W.val.cell? ⟨w.heap.size + 1, 5, none⟩ = some (.int .i64 x.warm.hi) := fun W => (f W).cell 5 rfl; go_big_quiet_op; first | exact hK | fail))
  (refine wpAnyG_two (i := 2) (k := 3) (by kernel_rfl) rfl rfl (by rfl) (by rfl) (fun wa hwa K hK => ?_) (fun wa hwa K hK => ?_))
  · go_simp
    refine hK _ _ ((hCC _ _ hC0 hwa).alloc (by have := hC0.size; have := hwa.size; omega) _) ?_
    clear hK K
    have kb1 := Box.new (g := wa.heap.size) #[.bool false, .slice none 0 0, .int .i64 0, .int .i64 0, .int .i64 0, .int .i64 0, .int .i64 0] 26 wa rfl
    have hC1 := (hCC _ _ hC0 hwa).alloc (by have := hC0.size; have := hwa.size; omega) (.cells #[.bool false, .slice none 0 0, .int .i64 0, .int .i64 0, .int .i64 0, .int .i64 0, .int .i64 0] 26)
    have hgb : w6.heap.size ≤ wa.heap.size := Nat.le_trans hC0.size hwa.size
    clear hwa
    obtain ⟨gb, hG⟩ : ∃ G, G = wa.heap.size := ⟨_, rfl⟩
    obtain ⟨waA, hWA⟩ : ∃ X, X = wa.alloc (.cells #[.bool false, .slice none 0 0, .int .i64 0, .int .i64 0, .int .i64 0, .int .i64 0, .int .i64 0] 26) := ⟨_, rfl⟩
    rw [← hWA] at kb1 hC1  ⊢
    rw [← hG] at kb1 hgb ⊢
    clear hG hWA
    (refine wpAnyG_one (i := 3) (by kernel_rfl) rfl (by rfl) (fun wb hwb K hK => ?_))
    go_simp
    refine hK _ _ ((hCC _ _ hC1 hwb).alloc (by have := hC1.size; have := hwb.size; omega) _) ?_
    clear hK K
    have kc2 := Box.new (g := wb.heap.size) #[.int .i64 0, .int .i64 0, .int .i64 0, .int .i64 0, .int .i64 0, .int .i64 0] 28 wb rfl
    have hC2 := (hCC _ _ hC1 hwb).alloc (by have := hC1.size; have := hwb.size; omega) (.cells #[.int .i64 0, .int .i64 0, .int .i64 0, .int .i64 0, .int .i64 0, .int .i64 0] 28)
    have hgc : w6.heap.size ≤ wb.heap.size := Nat.le_trans hC1.size hwb.size
    have kb2 := (kb1.below hwb).old (.cells #[.int .i64 0, .int .i64 0, .int .i64 0, .int .i64 0, .int .i64 0, .int .i64 0] 28)
    have hne : gb < wb.heap.size := (kb1.below hwb).lt
    clear kb1
    clear hwb
    obtain ⟨gc, hG⟩ : ∃ G, G = wb.heap.size := ⟨_, rfl⟩
    obtain ⟨wbA, hWA⟩ : ∃ X, X = wb.alloc (.cells #[.int .i64 0, .int .i64 0, .int .i64 0, .int .i64 0, .int .i64 0, .int .i64 0] 28) := ⟨_, rfl⟩
    rw [← hWA] at kc2 hC2 kb2 ⊢
    rw [← hG] at kc2 hgc hne ⊢
    clear hG hWA
    (refine wpAnyG_one (i := 4) (by kernel_rfl) rfl (by rfl) (fun wc hwc K hK => ?_))
    refine wp_store_box (kb2.below hwc) rfl rfl rfl rfl (by kernel_rfl) (by simp [Value.oneCell']) (fun wcS kb3 ho => ?_); dsimp only [Act.put]
    refine hK _ _ ((hCC _ _ hC2 hwc).trans (ho.below hgb)) ?_
    clear hK K
    have hC3 := (hCC _ _ hC2 hwc).trans (ho.below hgb)
    have kc3 := ho.box (kc2.below hwc) (by omega)
    clear ho hwc
    (refine wpAnyG_one (i := 5) (by kernel_rfl) rfl (by rfl) (fun wd hwd K hK => ?_))
    refine wp_store_box (kc3.below hwd) rfl rfl rfl rfl (by kernel_rfl) (by simp [Value.oneCell']) (fun wdS kc4 ho => ?_); dsimp only [Act.put]
    refine hK _ _ ((hCC _ _ hC3 hwd).trans (ho.below hgc)) ?_
    clear hK K
    have hC4 := (hCC _ _ hC3 hwd).trans (ho.below hgc)
    have kb4 := ho.box (kb3.below hwd) (by omega)
    clear ho hwd
    refine wpAnyG_done (by kernel_rfl) (fun wz hwz => ?_) _
    have zb := kb4.below hwz
    have zc := kc4.below hwz
    have zw := hCC _ _ hC4 hwz
    have zn : gb ≠ gc := by omega
    exact hrest gb gc wz ⟨zb, zc, zw, hgb, hgc, zn⟩
  · go_simp
    refine hK _ _ ((hCC _ _ hC0 hwa).alloc (by have := hC0.size; have := hwa.size; omega) _) ?_
    clear hK K
    have kc1 := Box.new (g := wa.heap.size) #[.int .i64 0, .int .i64 0, .int .i64 0, .int .i64 0, .int .i64 0, .int .i64 0] 28 wa rfl
    have hC1 := (hCC _ _ hC0 hwa).alloc (by have := hC0.size; have := hwa.size; omega) (.cells #[.int .i64 0, .int .i64 0, .int .i64 0, .int .i64 0, .int .i64 0, .int .i64 0] 28)
    have hgc : w6.heap.size ≤ wa.heap.size := Nat.le_trans hC0.size hwa.size
    clear hwa
    obtain ⟨gc, hG⟩ : ∃ G, G = wa.heap.size := ⟨_, rfl⟩
    obtain ⟨waA, hWA⟩ : ∃ X, X = wa.alloc (.cells #[.int .i64 0, .int .i64 0, .int .i64 0, .int .i64 0, .int .i64 0, .int .i64 0] 28) := ⟨_, rfl⟩
    rw [← hWA] at kc1 hC1  ⊢
    rw [← hG] at kc1 hgc ⊢
    clear hG hWA
    (refine wpAnyG_one (i := 2) (by kernel_rfl) rfl (by rfl) (fun wb hwb K hK => ?_))
    go_simp
    refine hK _ _ ((hCC _ _ hC1 hwb).alloc (by have := hC1.size; have := hwb.size; omega) _) ?_
    clear hK K
    have kb2 := Box.new (g := wb.heap.size) #[.bool false, .slice none 0 0, .int .i64 0, .int .i64 0, .int .i64 0, .int .i64 0, .int .i64 0] 26 wb rfl
    have hC2 := (hCC _ _ hC1 hwb).alloc (by have := hC1.size; have := hwb.size; omega) (.cells #[.bool false, .slice none 0 0, .int .i64 0, .int .i64 0, .int .i64 0, .int .i64 0, .int .i64 0] 26)
    have hgb : w6.heap.size ≤ wb.heap.size := Nat.le_trans hC1.size hwb.size
    have kc2 := (kc1.below hwb).old (.cells #[.bool false, .slice none 0 0, .int .i64 0, .int .i64 0, .int .i64 0, .int .i64 0, .int .i64 0] 26)
    have hne : gc < wb.heap.size := (kc1.below hwb).lt
    clear kc1
    clear hwb
    obtain ⟨gb, hG⟩ : ∃ G, G = wb.heap.size := ⟨_, rfl⟩
    obtain ⟨wbA, hWA⟩ : ∃ X, X = wb.alloc (.cells #[.bool false, .slice none 0 0, .int .i64 0, .int .i64 0, .int .i64 0, .int .i64 0, .int .i64 0] 26) := ⟨_, rfl⟩
    rw [← hWA] at kb2 hC2 kc2 ⊢
    rw [← hG] at kb2 hgb hne ⊢
    clear hG hWA
    (refine wpAnyG_one (i := 4) (by kernel_rfl) rfl (by rfl) (fun wc hwc K hK => ?_))
    refine wp_store_box (kb2.below hwc) rfl rfl rfl rfl (by kernel_rfl) (by simp [Value.oneCell']) (fun wcS kb3 ho => ?_); dsimp only [Act.put]
    refine hK _ _ ((hCC _ _ hC2 hwc).trans (ho.below hgb)) ?_
    clear hK K
    have hC3 := (hCC _ _ hC2 hwc).trans (ho.below hgb)
    have kc3 := ho.box (kc2.below hwc) (by omega)
    clear ho hwc
    (refine wpAnyG_one (i := 5) (by kernel_rfl) rfl (by rfl) (fun wd hwd K hK => ?_))
    refine wp_store_box (kc3.below hwd) rfl rfl rfl rfl (by kernel_rfl) (by simp [Value.oneCell']) (fun wdS kc4 ho => ?_); dsimp only [Act.put]
    refine hK _ _ ((hCC _ _ hC3 hwd).trans (ho.below hgc)) ?_
    clear hK K
    have hC4 := (hCC _ _ hC3 hwd).trans (ho.below hgc)
    have kb4 := ho.box (kb3.below hwd) (by omega)
    clear ho hwd
    refine wpAnyG_done (by kernel_rfl) (fun wz hwz => ?_) _
    have zb := kb4.below hwz
    have zc := kc4.below hwz
    have zw := hCC _ _ hC4 hwz
    have zn : gb ≠ gc := by omega
    exact hrest gb gc wz ⟨zb, zc, zw, hgb, hgc, zn⟩
  rintro gb gc w7 ⟨zb, zc, zw, hgb, hgc, zn⟩
  clear b0 b1 b2 b3 b4 b5 b6 b7 c0 c1 c2 c3 c4 c5 c6
  obtain ⟨hoff, hbeg, hfin, -, -, -⟩ := truth_bounds HE.out
  obtain ⟨-, -, -, -, -, hair⟩ := valid_all HOK.out.1
  have hmb : (0 : Int) ≤ (by8 : Int) := by omega
  have hmc : (0 : Int) ≤ (cut : Int) := by omega
  have L_7 := Lib.hid (L_6.out.below zw)
  have K13_5 := Lib.hid (K13_4.out.below zw)
  have HS1_4 := Lib.hid (HS1_3.out.mono zw)
  have HS2_3 := Lib.hid (HS2_2.out.mono zw)
  obtain ⟨b0, b1, b2, b3, b4, b5, b6, b7⟩ := BB.cells (b := b) L_7.out.B
  obtain ⟨c0, c1, c2, c3, c4, c5, c6⟩ := CB.cells (x := x) L_7.out.X
  have hgl := zb.lt
  have u2 := zb.cell 2 rfl
  have uf := zb.frozen 2
  go_upto_region 12 with fail
  clear b0 b1 b2 b3 b4 b5 b6 b7 c0 c1 c2 c3 c4 c5 c6
  clear hgl u2 uf
  have zs : Box gb #[.bool b.weighs, .slice oa b.n cap, .int .i64 (b.off - min b.off ((by8 : Int) % 16)), .int .i64 b.buoy.lo, .int .i64 b.buoy.hi, .int .i64 b.air.lo, .int .i64 b.air.hi] 26 _ := zb.set 2 (.int .i64 (b.off - min b.off ((by8 : Int) % 16)))
  have ho := (Only.refl gb w7).setCell 2 (.int .i64 (b.off - min b.off ((by8 : Int) % 16)))
  have zo := ho.box zc zn.symm
  have zv := zw.trans (ho.below hgb)
  clear zb zc zw ho
  obtain ⟨w8, hW⟩ : ∃ X, X = w7.setCell ⟨gb, 2, none⟩ (.int .i64 (b.off - min b.off ((by8 : Int) % 16))) := ⟨_, rfl⟩
  rw [← hW] at zs zo zv ⊢
  clear hW
  have zb := zs
  have zc := zo
  have zw := zv
  clear zs zo zv
  have L_8 := Lib.hid (L_6.out.below zw)
  have K13_6 := Lib.hid (K13_4.out.below zw)
  have HS1_5 := Lib.hid (HS1_3.out.mono zw)
  have HS2_4 := Lib.hid (HS2_2.out.mono zw)
  clear L_7 K13_5 HS1_4 HS2_3
  obtain ⟨b0, b1, b2, b3, b4, b5, b6, b7⟩ := BB.cells (b := b) L_8.out.B
  obtain ⟨c0, c1, c2, c3, c4, c5, c6⟩ := CB.cells (x := x) L_8.out.X
  have hgl := zc.lt
  have u2 := zc.cell 3 rfl
  have uf := zc.frozen 3
  go_upto_region 13 with fail
  clear b0 b1 b2 b3 b4 b5 b6 b7 c0 c1 c2 c3 c4 c5 c6
  clear hgl u2 uf
  have zs : Box gc #[.int .i64 x.beg.lo, .int .i64 x.beg.hi, .int .i64 x.fin.lo, .int .i64 (max x.fin.lo (x.fin.hi - (cut : Int) % 7)), .int .i64 x.warm.lo, .int .i64 x.warm.hi] 28 _ := zc.set 3 (.int .i64 (max x.fin.lo (x.fin.hi - (cut : Int) % 7)))
  have ho := (Only.refl gc w8).setCell 3 (.int .i64 (max x.fin.lo (x.fin.hi - (cut : Int) % 7)))
  have zo := ho.box zb zn
  have zv := zw.trans (ho.below hgc)
  clear zb zc zw ho
  obtain ⟨w9, hW⟩ : ∃ X, X = w8.setCell ⟨gc, 3, none⟩ (.int .i64 (max x.fin.lo (x.fin.hi - (cut : Int) % 7))) := ⟨_, rfl⟩
  rw [← hW] at zs zo zv ⊢
  clear hW
  have zc := zs
  have zb := zo
  have zw := zv
  clear zs zo zv
  have L_9 := Lib.hid (L_6.out.below zw)
  have K13_7 := Lib.hid (K13_4.out.below zw)
  have HS1_6 := Lib.hid (HS1_3.out.mono zw)
  have HS2_5 := Lib.hid (HS2_2.out.mono zw)
  clear L_8 K13_6 HS1_5 HS2_4
  obtain ⟨b0, b1, b2, b3, b4, b5, b6, b7⟩ := BB.cells (b := b) L_9.out.B
  obtain ⟨c0, c1, c2, c3, c4, c5, c6⟩ := CB.cells (x := x) L_9.out.X
  have hgl := zc.lt
  have u2 := zc.cell 0 rfl
  have uf := zc.frozen 0
  go_upto_region 14 with fail
  clear b0 b1 b2 b3 b4 b5 b6 b7 c0 c1 c2 c3 c4 c5 c6
  clear hgl u2 uf
  have zs : Box gc #[.int .i64 (min x.beg.hi (x.beg.lo + (cut : Int) % 5)), .int .i64 x.beg.hi, .int .i64 x.fin.lo, .int .i64 (max x.fin.lo (x.fin.hi - (cut : Int) % 7)), .int .i64 x.warm.lo, .int .i64 x.warm.hi] 28 _ := zc.set 0 (.int .i64 (min x.beg.hi (x.beg.lo + (cut : Int) % 5)))
  have ho := (Only.refl gc w9).setCell 0 (.int .i64 (min x.beg.hi (x.beg.lo + (cut : Int) % 5)))
  have zo := ho.box zb zn
  have zv := zw.trans (ho.below hgc)
  clear zb zc zw ho
  obtain ⟨w10, hW⟩ : ∃ X, X = w9.setCell ⟨gc, 0, none⟩ (.int .i64 (min x.beg.hi (x.beg.lo + (cut : Int) % 5))) := ⟨_, rfl⟩
  rw [← hW] at zs zo zv ⊢
  clear hW
  have zc := zs
  have zb := zo
  have zw := zv
  clear zs zo zv
  have L_10 := Lib.hid (L_6.out.below zw)
  have K13_8 := Lib.hid (K13_4.out.below zw)
  have HS1_7 := Lib.hid (HS1_3.out.mono zw)
  have HS2_6 := Lib.hid (HS2_2.out.mono zw)
  clear L_9 K13_7 HS1_6 HS2_5
  obtain ⟨b0, b1, b2, b3, b4, b5, b6, b7⟩ := BB.cells (b := b) L_10.out.B
  obtain ⟨c0, c1, c2, c3, c4, c5, c6⟩ := CB.cells (x := x) L_10.out.X
  have hgl := zb.lt
  have u2 := zb.cell 5 rfl
  have uf := zb.frozen 5
  go_upto_region 15 with fail
  clear b0 b1 b2 b3 b4 b5 b6 b7 c0 c1 c2 c3 c4 c5 c6
  clear hgl u2 uf
  have zs : Box gb #[.bool b.weighs, .slice oa b.n cap, .int .i64 (b.off - min b.off ((by8 : Int) % 16)), .int .i64 b.buoy.lo, .int .i64 b.buoy.hi, .int .i64 (min b.air.hi (b.air.lo + (by8 : Int) % 3)), .int .i64 b.air.hi] 26 _ := zb.set 5 (.int .i64 (min b.air.hi (b.air.lo + (by8 : Int) % 3)))
  have ho := (Only.refl gb w10).setCell 5 (.int .i64 (min b.air.hi (b.air.lo + (by8 : Int) % 3)))
  have zo := ho.box zc zn.symm
  have zv := zw.trans (ho.below hgb)
  clear zb zc zw ho
  obtain ⟨w11, hW⟩ : ∃ X, X = w10.setCell ⟨gb, 5, none⟩ (.int .i64 (min b.air.hi (b.air.lo + (by8 : Int) % 3))) := ⟨_, rfl⟩
  rw [← hW] at zs zo zv ⊢
  clear hW
  have zb := zs
  have zc := zo
  have zw := zv
  clear zs zo zv
  have L_11 := Lib.hid (L_6.out.below zw)
  have K13_9 := Lib.hid (K13_4.out.below zw)
  have HS1_8 := Lib.hid (HS1_3.out.mono zw)
  have HS2_7 := Lib.hid (HS2_2.out.mono zw)
  clear L_10 K13_8 HS1_7 HS2_6
  clear zw hgb hgc zn
  obtain ⟨b', hb'⟩ : ∃ b' : Bnch, b' = { b with off := b.off - min b.off ((by8 : Int) % 16), air := ⟨min b.air.hi (b.air.lo + (by8 : Int) % 3), b.air.hi⟩ } := ⟨_, rfl⟩
  obtain ⟨y, hy⟩ : ∃ y : Ctch, y = { x with beg := ⟨min x.beg.hi (x.beg.lo + (cut : Int) % 5), x.beg.hi⟩, fin := ⟨x.fin.lo, max x.fin.lo (x.fin.hi - (cut : Int) % 7)⟩ } := ⟨_, rfl⟩
  have zb2 : BB 26 b' oa cap gb w11 := by rw [hb']; exact zb
  have zc2 : CB y gc w11 := by rw [hy]; exact zc
  have hfi : Finer b b' x y := by
    rw [hb', hy]
    constructor <;> first | rfl | (dsimp only; omega)
  have FI := Lib.hid hfi
  have HN2 := Lib.hid hfi.n
  have HT2 := Lib.hid (show MarksAt w oa b'.n b'.t by rw [hfi.n, hfi.t]; exact HT.out)
  clear hb' hy hfi zb zc hoff hbeg hfin hair hmb hmc
  have NB_0 := Lib.hid zb2
  have NC_0 := Lib.hid zc2
  clear zb2 zc2
  obtain ⟨b0, b1, b2, b3, b4, b5, b6, b7⟩ := BB.cells (b := b') NB_0.out
  obtain ⟨c0, c1, c2, c3, c4, c5, c6⟩ := CB.cells (x := y) NC_0.out
  go_wp2_with fail
  refine (Water_any b' y oa cap _ (by rw [HN2.out]; omega) (by rw [HN2.out]; exact hcap) (HT2.out.mono L_11.out.low)).mono ?_
  rintro e w12 ⟨rfl, hb12⟩
  obtain ⟨e9, s1, s2⟩ := FI.out.span HE.out
  have f1 := (waterR_form b' y).resolve_left (fun h9 => by omega)
  have f2 := water_le e9
  obtain ⟨v', hv'⟩ : ∃ v', v' = (b'.waterR y).1 := ⟨_, rfl⟩
  rw [← HV.out, ← hv'] at s1 s2
  rw [← hv'] at f1 f2
  rw [e9, ← hv']
  have HV2 := Lib.hid hv'
  obtain ⟨-, x1, x3, -, x4⟩ := f1
  clear e9 hv'
  clear b0 b1 b2 b3 b4 b5 b6 b7 c0 c1 c2 c3 c4 c5 c6
  have hbE := hb12.alloc hb12.size (.cells #[.int .i64 v'.lo, .int .i64 v'.hi] 24)
  have T9 := Box.new (g := w12.heap.size) #[.int .i64 v'.lo, .int .i64 v'.hi] 24 w12 rfl
  have L_12 := Lib.hid (L_11.out.below hbE)
  have K13_10 := Lib.hid (K13_9.out.below hbE)
  have HS1_9 := Lib.hid (HS1_8.out.mono hbE)
  have HS2_8 := Lib.hid (HS2_7.out.mono hbE)
  have NB_1 := Lib.hid (NB_0.out.below hbE)
  have NC_1 := Lib.hid (NC_0.out.below hbE)
  clear L_11 K13_9 HS1_8 HS2_7 NB_0 NC_0 hbE
  clear hb12
  go_upto_region 16 with fail
  obtain ⟨g21, hg⟩ : ∃ n, n = w12.heap.size := ⟨_, rfl⟩
  obtain ⟨W12, hW⟩ : ∃ X, X = w12.alloc (.cells #[.int .i64 v'.lo, .int .i64 v'.hi] 24) := ⟨_, rfl⟩
  rw [← hW] at L_12 K13_10 HS1_9 HS2_8 NB_1 NC_1 T9 ⊢
  rw [← hg] at T9 ⊢
  clear hW hg
  have K21_0 := Lib.hid T9
  clear T9
  obtain ⟨b0, b1, b2, b3, b4, b5, b6, b7⟩ := BB.cells (b := b') NB_1.out
  obtain ⟨c0, c1, c2, c3, c4, c5, c6⟩ := CB.cells (x := y) NC_1.out
  go_wp2_with fail
  refine (Errors_any b' y oa cap or m cr r _ (by rw [HN2.out]; omega) (by rw [HN2.out]; exact hcap) (HT2.out.mono L_12.out.low) (by omega) (HR.out.mono L_12.out.low)).mono ?_
  rintro e w13 ⟨o3, p3, rfl, hS3, hb13⟩
  rw [FI.out.test HTE.out, cnt_zero] at hS3
  dsimp only at hS3
  rw [← HV2.out] at hS3
  rw [FI.out.test HTE.out, cnt_zero]
  clear b0 b1 b2 b3 b4 b5 b6 b7 c0 c1 c2 c3 c4 c5 c6
  have L_13 := Lib.hid (L_12.out.below hb13)
  have K13_11 := Lib.hid (K13_10.out.below hb13)
  have HS1_10 := Lib.hid (HS1_9.out.mono hb13)
  have HS2_9 := Lib.hid (HS2_8.out.mono hb13)
  have NB_2 := Lib.hid (NB_1.out.below hb13)
  have NC_2 := Lib.hid (NC_1.out.below hb13)
  have K21_1 := Lib.hid (K21_0.out.below hb13)
  clear L_12 K13_10 HS1_9 HS2_8 NB_1 NC_1 K21_0 hb13
  have HS3_0 := Lib.hid hS3
  clear hS3
  have u0 := K21_1.out.cell 0 rfl
  have u1 := K21_1.out.cell 1 rfl
  simp only [List.getElem_toArray, List.getElem_cons_zero, List.getElem_cons_succ] at u0 u1
  have v0 := K13_11.out.cell 0 rfl
  have v1 := K13_11.out.cell 1 rfl
  simp only [List.getElem_toArray, List.getElem_cons_zero, List.getElem_cons_succ] at v0 v1
  have z0 : decide (v'.lo < v.lo) = false := by simpa using s1
  have z1 : decide (v.hi < v'.hi) = false := by simpa using s2
  go_wp2_with fail
  clear u0 u1
  clear v0 v1
  clear z0 z1
  obtain ⟨W8, hW⟩ : ∃ X, X = w13 := ⟨_, rfl⟩
  rw [← hW] at L_13 K13_11 HS1_10 HS2_9 NB_2 NC_2 K21_1 HS3_0  ⊢
  clear hW
  clear K13_11 K21_1
  go_loopw [25] (fun v25 wr => ∃ j : Nat, j ≤ m ∧ v25 = .int .i64 j ∧ Below W8.heap.size W8 wr) (fun i _ => m - (intOf i).toNat)
  case atStart => exact ⟨0, Nat.zero_le _, rfl, Below.refl _ _⟩
  case round =>
    obtain ⟨j, hj, rfl, hb⟩ := hrel
    by_cases hlt : j < m
    · as_aux_lemma =>
      have hd1 : decide (j < m) = true := by simpa using hlt
      have hj0 : (0 : Int) ≤ (j : Int) := by omega
      have hj1 : (j : Int) < (m : Int) := by omega
      obtain ⟨t3, o3', rfl, l3, p0, p1'⟩ := (HS3_0.out.mono hb) j hlt
      obtain ⟨t1, o1', rfl, l1, q0, q1⟩ := (HS1_10.out.mono hb) j hlt
      dsimp only at p0 p1' q0 q1
      have EF := err_finer (v := v) (v' := v') (s := r j) y1 s1 f2 s2 (HROW.out j hlt).1 (by have := HROW.out j hlt; omega)
      generalize errR v (r j) = E at *
      generalize errR v' (r j) = E' at *
      have z0 : decide (E'.lo < E.lo) = false := by simpa using EF.1
      have z1 : decide (E.hi < E'.hi) = false := by simpa using EF.2
      have f0 : ∀ W : Aft wr, W.val.cell? ⟨t3, o3' + j * 2, none⟩ = some (.int .i64 E'.lo) := fun W => (W.below.cell (p := ⟨t3, o3' + j * 2, none⟩) l3).trans p0
      have f1 : ∀ W : Aft wr, W.val.cell? ⟨t3, o3' + j * 2 + 1, none⟩ = some (.int .i64 E'.hi) := fun W => (W.below.cell (p := ⟨t3, o3' + j * 2 + 1, none⟩) l3).trans p1'
      have f3 : ∀ W : Aft wr, W.val.cell? ⟨t1, o1' + j * 2, none⟩ = some (.int .i64 E.lo) := fun W => (W.below.cell (p := ⟨t1, o1' + j * 2, none⟩) l1).trans q0
      have f4 : ∀ W : Aft wr, W.val.cell? ⟨t1, o1' + j * 2 + 1, none⟩ = some (.int .i64 E.hi) := fun W => (W.below.cell (p := ⟨t1, o1' + j * 2 + 1, none⟩) l1).trans q1
      clear p0 p1' q0 q1 EF
      go_wp2_with fail
      refine wp_region_aft (by kernel_rfl) (by kernel_rfl) ?_
      repeat (go_big_quiet_step (fail))
      refine wpQuiet_nil ?_
      intro WA
      obtain ⟨wy, hwy⟩ : ∃ X, X = WA.val := ⟨_, rfl⟩
      have hby := WA.below
      rw [← hwy] at hby ⊢
      clear hwy WA
      clear f0 f1 f3 f4
      go_wp2_with fail
      go_roundw
      case rel => exact ⟨j + 1, by omega, by go_num, hb.trans (hby.mono hb.size)⟩
      case measure => simp [intOf]; omega
    · have hd1 : decide (j < m) = false := by simpa using hlt
      skip
      obtain ⟨W9, hW⟩ : ∃ X, X = wr := ⟨_, rfl⟩
      rw [← hW] at hb ⊢
      clear hW
      have L_14 := Lib.hid (L_13.out.below hb)
      have HS1_11 := Lib.hid (HS1_10.out.mono hb)
      have HS2_10 := Lib.hid (HS2_9.out.mono hb)
      have NB_3 := Lib.hid (NB_2.out.below hb)
      have NC_3 := Lib.hid (NC_2.out.below hb)
      have HS3_1 := Lib.hid (HS3_0.out.mono hb)
      clear L_13 HS1_10 HS2_9 NB_2 NC_2 HS3_0 hb
      by_cases hmo : withinB most 0 10000 = true
      case neg =>
        have hpe : passE 0 most = 2 := by unfold passE; rw [if_pos rfl, if_neg hmo]
        clear HS2_10 HS1_11 HS3_1 hmo
        rw [hpe, cnt_ne (by omega)]
        clear hpe
        go_wp2_with fail
        refine (awake_any _).mono ?_
        rintro e wz ⟨rfl, hbz⟩
        go_wp2
        go_ret
        exact ⟨rfl, L_14.out.low.trans (hbz.mono L_14.out.low.size)⟩
      have hpe : passE 0 most = 0 := by unfold passE; rw [if_pos rfl, if_pos hmo]
      rw [hpe, cnt_zero] at HS2_10
      rw [hpe, cnt_zero]
      have HPE := Lib.hid hpe
      have hm0 : 0 ≤ most ∧ most ≤ 10000 := by simpa [withinB] using hmo
      clear hpe hmo
      have hmb : (0 : Int) ≤ (by8 : Int) := by omega
      obtain ⟨mo, hmo⟩ : ∃ mo, mo = min 10000 (most + (by8 : Int)) := ⟨_, rfl⟩
      have HMO := Lib.hid hmo
      have HPF := Lib.hid (show passE 0 mo = 0 by unfold passE; rw [if_pos rfl, if_pos (by simp only [withinB, decide_eq_true_eq]; omega)])
      clear hmo
      obtain ⟨b0, b1, b2, b3, b4, b5, b6, b7⟩ := BB.cells (b := b) L_14.out.B
      obtain ⟨c0, c1, c2, c3, c4, c5, c6⟩ := CB.cells (x := x) L_14.out.X
      go_wp2_with fail
      rw [← HMO.out]
      refine (Passed_any b x oa cap or m cr r mo _ (by omega) hcap (HT.out.mono L_14.out.low) (by omega) (HR.out.mono L_14.out.low)).mono ?_
      rintro e w14 ⟨o4, p4, rfl, hS4, hb14⟩
      rw [HTE.out, HTV.out, HPF.out, cnt_zero] at hS4
      rw [HTE.out, HPF.out, cnt_zero]
      clear b0 b1 b2 b3 b4 b5 b6 b7 c0 c1 c2 c3 c4 c5 c6
      have L_15 := Lib.hid (L_14.out.below hb14)
      have HS1_12 := Lib.hid (HS1_11.out.mono hb14)
      have HS2_11 := Lib.hid (HS2_10.out.mono hb14)
      have NB_4 := Lib.hid (NB_3.out.below hb14)
      have NC_4 := Lib.hid (NC_3.out.below hb14)
      have HS3_2 := Lib.hid (HS3_1.out.mono hb14)
      clear L_14 HS1_11 HS2_10 NB_3 NC_3 HS3_1 hb14
      have HS4_0 := Lib.hid hS4
      clear hS4
      obtain ⟨b0, b1, b2, b3, b4, b5, b6, b7⟩ := BB.cells (b := b') NB_4.out
      obtain ⟨c0, c1, c2, c3, c4, c5, c6⟩ := CB.cells (x := y) NC_4.out
      go_wp2_with fail
      refine (Passed_any b' y oa cap or m cr r most _ (by rw [HN2.out]; omega) (by rw [HN2.out]; exact hcap) (HT2.out.mono L_15.out.low) (by omega) (HR.out.mono L_15.out.low)).mono ?_
      rintro e w15 ⟨o5, p5, rfl, hS5, hb15⟩
      rw [FI.out.test HTE.out] at hS5
      dsimp only at hS5
      rw [← HV2.out, HPE.out, cnt_zero] at hS5
      rw [FI.out.test HTE.out]
      dsimp only
      rw [HPE.out, cnt_zero]
      clear b0 b1 b2 b3 b4 b5 b6 b7 c0 c1 c2 c3 c4 c5 c6
      have L_16 := Lib.hid (L_15.out.below hb15)
      have HS1_13 := Lib.hid (HS1_12.out.mono hb15)
      have HS2_12 := Lib.hid (HS2_11.out.mono hb15)
      have NB_5 := Lib.hid (NB_4.out.below hb15)
      have NC_5 := Lib.hid (NC_4.out.below hb15)
      have HS3_3 := Lib.hid (HS3_2.out.mono hb15)
      have HS4_1 := Lib.hid (HS4_0.out.mono hb15)
      clear L_15 HS1_12 HS2_11 NB_4 NC_4 HS3_2 HS4_0 hb15
      have HS5_0 := Lib.hid hS5
      clear hS5
      obtain ⟨WA, hW⟩ : ∃ X, X = w15 := ⟨_, rfl⟩
      rw [← hW] at L_16 HS1_13 HS2_12 NB_5 NC_5 HS3_3 HS4_1 HS5_0  ⊢
      clear hW
      go_wp2_with fail
      go_loopw [30] (fun v30 wr => ∃ j : Nat, j ≤ m ∧ v30 = .int .i64 j ∧ Below WA.heap.size WA wr) (fun i _ => m - (intOf i).toNat)
      case atStart => exact ⟨0, Nat.zero_le _, rfl, Below.refl _ _⟩
      case round =>
        obtain ⟨j, hj, rfl, hb⟩ := hrel
        by_cases hlt : j < m
        · as_aux_lemma =>
          have hd1 : decide (j < m) = true := by simpa using hlt
          have hj0 : (0 : Int) ≤ (j : Int) := by omega
          have hj1 : (j : Int) < (m : Int) := by omega
          obtain ⟨t2, o2', rfl, l2, p0⟩ := (HS2_12.out.mono hb) j hlt
          obtain ⟨t4, o4', rfl, l4, q0⟩ := (HS4_1.out.mono hb) j hlt
          obtain ⟨t5, o5', rfl, l5, r0⟩ := (HS5_0.out.mono hb) j hlt
          dsimp only at p0 q0 r0
          have PM := pass_more (v := v) (s := r j) (most := most) (most' := mo) y1 (by omega) (HROW.out j hlt).2.1 (by have := HMO.out; omega)
          have PF := pass_finer (v := v) (v' := v') (s := r j) (most := most) s1 f2 s2 (HROW.out j hlt).2.1 hm0
          generalize passR v (r j) most = P at *
          generalize passR v (r j) mo = Q at *
          generalize passR v' (r j) most = R at *
          have z0 : decide (Q < P) = false := by simpa using PM
          have f0 : ∀ W : Aft wr, W.val.cell? ⟨t2, o2' + j, none⟩ = some (.int .i64 P) := fun W => (W.below.cell (p := ⟨t2, o2' + j, none⟩) l2).trans p0
          have f1 : ∀ W : Aft wr, W.val.cell? ⟨t4, o4' + j, none⟩ = some (.int .i64 Q) := fun W => (W.below.cell (p := ⟨t4, o4' + j, none⟩) l4).trans q0
          have f3 : ∀ W : Aft wr, W.val.cell? ⟨t5, o5' + j, none⟩ = some (.int .i64 R) := fun W => (W.below.cell (p := ⟨t5, o5' + j, none⟩) l5).trans r0
          clear p0 q0 r0 PM
          by_cases hP : P = 1
          · subst hP
            clear PF
            go_wp2_with fail
            refine wp_region_aft (by kernel_rfl) (by kernel_rfl) ?_
            repeat (go_big_quiet_step (fail))
            refine wpQuiet_nil ?_
            intro WA
            obtain ⟨wy, hwy⟩ : ∃ X, X = WA.val := ⟨_, rfl⟩
            have hby := WA.below
            rw [← hwy] at hby ⊢
            clear hwy WA
            clear f0 f1 f3
            go_wp2_with fail
            go_roundw
            case rel => exact ⟨j + 1, by omega, by go_num, hb.trans (hby.mono hb.size)⟩
            case measure => simp [intOf]; omega
          · have hR : R = P := PF hP
            subst hR
            have z2 : (R != 1) = true := by simpa using hP
            clear PF hP
            go_wp2_with fail
            refine wp_region_aft (by kernel_rfl) (by kernel_rfl) ?_
            repeat (go_big_quiet_step (fail))
            refine wpQuiet_nil ?_
            intro WA
            obtain ⟨wy, hwy⟩ : ∃ X, X = WA.val := ⟨_, rfl⟩
            have hby := WA.below
            rw [← hwy] at hby ⊢
            clear hwy WA
            clear f0 f1 f3
            go_wp2_with fail
            go_roundw
            case rel => exact ⟨j + 1, by omega, by go_num, hb.trans (hby.mono hb.size)⟩
            case measure => simp [intOf]; omega
        · have hd1 : decide (j < m) = false := by simpa using hlt
          have hlz := L_16.out.low.trans (hb.mono L_16.out.low.size)
          go_wp2_with fail
          refine (awake_any _).mono ?_
          rintro e wz ⟨rfl, hbz⟩
          go_wp2
          go_ret
          exact ⟨rfl, hlz.trans (hbz.mono hlz.size)⟩
end Go.Proofs.Ythoefcpeagclbaa
