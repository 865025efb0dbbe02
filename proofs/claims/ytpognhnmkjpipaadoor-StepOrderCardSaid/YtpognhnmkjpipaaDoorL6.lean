/- StepEnds returns true. -/
import Derived.Test.YtpognhnmkjpipaaDoorL7
import Derived.Test.YtpognhnmkjpipaaDoorP10
namespace Go.Proofs.YtpognhnmkjpipaaDoor
open Go.RowKit
theorem wrap_all : (List.range 11).all (fun n => (List.range n).all fun s => decide (wrap64 (wrap64 (wrap64 ((2 : Int) ^ n) - 1) - wrap64 ((2 : Int) ^ s)) = ((2 ^ n - 1 - 2 ^ s : Nat) : Int))) = true := by kernel_rfl
theorem shut_wrap {n s : Nat} (hn : n ≤ 10) (hs : s < n) : wrap64 (wrap64 (wrap64 ((2 : Int) ^ n) - 1) - wrap64 ((2 : Int) ^ s)) = ((2 ^ n - 1 - 2 ^ s : Nat) : Int) := of_decide_eq_true (List.all_eq_true.1 (List.all_eq_true.1 wrap_all n (List.mem_range.2 (by omega))) s (List.mem_range.2 hs))
set_option maxRecDepth 100000 in
set_option maxHeartbeats 8000000 in
theorem fill_any (t : Tst) (oa : Option Addr) (ca : Nat) (ob : Option Addr) (cb : Nat) (s : Nat) (L : Int) (gX gS : Nat) (w : World) (hX : TB t oa ca ob cb gX w) (hS : Box gS #[.int .i64 (s : Nat)] 3 w) (hM : Mem t oa ob w) (hn : t.n ≤ 10) (hs : s < t.n) (hm : t.m < 12) (hnil : ob = none → t.m = 0 ∧ cb = 0) (hL0 : -1000000000000 ≤ L) (hL1 : L ≤ 1000000000000) (hu0 : 0 ≤ (t.u s).lo) (hu1 : (t.u s).lo ≤ 1073741824) :
    Calls Tryd.prog 23 #[.int .i64 L, .pointer (some ⟨gX, 0, none⟩), .pointer (some ⟨gS, 0, none⟩)] w fun e w' => e = .returned (.tuple #[.agg #[.int .i64 ((t.rich (openSt t s (L + (t.u s).lo))).leakR s).lo, .int .i64 ((t.rich (openSt t s (L + (t.u s).lo))).leakR s).hi], .int .i64 ((t.rich (openSt t s (L + (t.u s).lo))).leakErr s)]) ∧ Below w.heap.size w w' := by
  have HM := Lib.hid hM
  have HX := Lib.hid hX
  have HSS := Lib.hid hS
  have HNIL := Lib.hid hnil
  clear hM hnil
  obtain ⟨c0, c1, c2, c3, c4⟩ := TB.cells hX
  have d0 := hS.cell 0 (v := .int .i64 (s : Nat)) rfl
  have d1 := hS.lt
  clear hX hS
  obtain ⟨iR, hiR, hzR0, hzR1, hzR2⟩ := info_parts (P := Tryd.prog) (e := 49) (z := .agg #[.int .i64 0, .int .i64 0, .int .i64 0]) (size := 3) (bytes := 24) (by kernel_rfl)
  obtain ⟨bu, ou, rfl, lu, u0, u1⟩ := HM.out.u s hs
  have hi0 : (0 : Int) ≤ (s : Int) := by omega
  have hi1 : (s : Int) < (t.n : Int) := by omega
  obtain ⟨y, hy⟩ : ∃ y, y = t.rich (openSt t s (L + (t.u s).lo)) := ⟨_, rfl⟩
  rw [← hy]
  have HY := Lib.hid hy
  clear hy
  go_enter Tryd.func23, Tryd.ntmps23
  go_upto_region 3 with fail
  have hb0 : Below w.heap.size w ((w.alloc (.cells #[.int .i64 0, .int .i64 0] 37)).alloc (.cells #[.slice (some ⟨bu, ou, none⟩) t.n ca, .int .i64 t.leaks, .int .i64 t.least, .slice ob t.m cb] 25)) := (by repeat' (first | exact Below.refl _ _ | assumption | apply below_drewN | apply Below.drew | (refine Below.alloc ?_ ?_ _) | (refine Below.setCell ?_ ?_ _) | (simp; done) | (simp; omega) | omega))
  have zR : Box w.heap.size #[.int .i64 0, .int .i64 0] 37 ((w.alloc (.cells #[.int .i64 0, .int .i64 0] 37)).alloc (.cells #[.slice (some ⟨bu, ou, none⟩) t.n ca, .int .i64 t.leaks, .int .i64 t.least, .slice ob t.m cb] 25)) := (Box.new _ 37 w rfl).old _
  have zY : Box (w.heap.size + 1) #[.slice (some ⟨bu, ou, none⟩) t.n ca, .int .i64 t.leaks, .int .i64 t.least, .slice ob t.m cb] 25 ((w.alloc (.cells #[.int .i64 0, .int .i64 0] 37)).alloc (.cells #[.slice (some ⟨bu, ou, none⟩) t.n ca, .int .i64 t.leaks, .int .i64 t.least, .slice ob t.m cb] 25)) := Box.new _ 25 _ (by simp)
  obtain ⟨X0, hW⟩ : ∃ X, X = ((w.alloc (.cells #[.int .i64 0, .int .i64 0] 37)).alloc (.cells #[.slice (some ⟨bu, ou, none⟩) t.n ca, .int .i64 t.leaks, .int .i64 t.least, .slice ob t.m cb] 25)) := ⟨_, rfl⟩
  rw [← hW] at hb0 zR zY ⊢
  clear hW
  have nX : gX ≠ w.heap.size + 1 := by omega
  have nS : gS ≠ w.heap.size + 1 := by omega
  have lY : w.heap.size ≤ w.heap.size + 1 := by omega
  have nR : w.heap.size ≠ w.heap.size + 1 := by omega
  obtain ⟨gY, hG⟩ : ∃ G, G = w.heap.size + 1 := ⟨_, rfl⟩
  rw [← hG] at zY nX nS lY nR ⊢
  clear hG
  have HB0 := Lib.hid hb0
  have HX0 := Lib.hid (HX.out.below hb0)
  have HS0 := Lib.hid (HSS.out.below hb0)
  have HM0 := Lib.hid (HM.out.on hb0)
  have ZR := Lib.hid zR
  have ZY := Lib.hid zY
  clear hb0 zR zY HX HSS c0 c1 c2 c3 c4 d0 d1 lu u0 u1
  have HS4 := Lib.hid HM0.out.s
  have HNB := Lib.hid (show ∀ a, 0 < t.m → ob = some a → a.block ≠ gY from fun a h0 ha => by obtain ⟨b9, o9, e9, hl9, -⟩ := HM.out.s 0 h0; rw [ha] at e9; cases e9; show b9 ≠ gY; omega)
  have HMW := HM
  clear HM
  have hCC : ∀ A B : World, (∃ cs, AR gY cs X0 A) → Below A.heap.size A B → (∃ cs, AR gY cs X0 B) := fun A B h1 h2 => h1.imp fun _ h => h.on h2
  have hC0 : AR gY #[.slice (some ⟨bu, ou, none⟩) t.n ca, .int .i64 t.leaks, .int .i64 t.least, .slice ob t.m cb] X0 X0.drew := ⟨(Same.refl _ _).drew, ZY.out.drew, ZY.out.lt⟩
  refine wp_region_garb (fun A => ∃ cs, AR gY cs X0 A) (by kernel_rfl) ?_
  (refine wpAnyG_take (i := 1) hCC ⟨_, hC0⟩ rfl (by kernel_rfl) (by kernel_rfl) (by kernel_rfl) (fun _ _ _ _ h => h) (by rfl) ?_; apply Exists.intro; refine ⟨fun w1 h1 K hK => ?_, ?_⟩; · ( go_big_quiet_op; first | exact hK | fail))
  (refine wpAnyG_take (i := 2) hCC ⟨_, hC0⟩ rfl (by kernel_rfl) (by kernel_rfl) (by kernel_rfl) (fun _ _ _ _ h => h) (by rfl) ?_; apply Exists.intro; refine ⟨fun w1 h1 K hK => ?_, ?_⟩; · (have hZ : ∀ W : Aft w1, Same (fun b => b < X0.heap.size ∧ b ≠ gY) X0 W.val := fun W => (by obtain ⟨cs, h2⟩ := h1; exact (h2.on W.below).same);have zT : ∀ W : Aft w1, TB t (some ⟨bu, ou, none⟩) ca ob cb gX W.val := fun W => HX0.out.same (hZ W) ⟨HX0.out.lt, nX⟩; have g3 : ∀ W : Aft w1, W.val.cell? ⟨gX, 3, none⟩ = some (.slice ob t.m cb) := fun W => (zT W).cell 3 rfl; clear zT hZ; go_big_quiet_op; first | exact hK | fail))
  (refine wpAnyG_take (i := 4) hCC ⟨_, hC0⟩ rfl (by kernel_rfl) (by kernel_rfl) (by kernel_rfl) (fun _ _ _ _ h => h) (by rfl) ?_; apply Exists.intro; refine ⟨fun w1 h1 K hK => ?_, ?_⟩; · ( go_big_quiet_op; first | exact hK | fail))
  (refine wpAnyG_take (i := 5) hCC ⟨_, hC0⟩ rfl (by kernel_rfl) (by kernel_rfl) (by kernel_rfl) (fun _ _ _ _ h => h) (by rfl) ?_; apply Exists.intro; refine ⟨fun w1 h1 K hK => ?_, ?_⟩; · (have hZ : ∀ W : Aft w1, Same (fun b => b < X0.heap.size ∧ b ≠ gY) X0 W.val := fun W => (by obtain ⟨cs, h2⟩ := h1; exact (h2.on W.below).same);have zT : ∀ W : Aft w1, TB t (some ⟨bu, ou, none⟩) ca ob cb gX W.val := fun W => HX0.out.same (hZ W) ⟨HX0.out.lt, nX⟩; have g0 : ∀ W : Aft w1, W.val.cell? ⟨gX, 0, none⟩ = some (.slice (some ⟨bu, ou, none⟩) t.n ca) := fun W => (zT W).cell 0 rfl; clear zT hZ; go_big_quiet_op; first | exact hK | fail))
  (refine wpAnyG_take (i := 6) hCC ⟨_, hC0⟩ rfl (by kernel_rfl) (by kernel_rfl) (by kernel_rfl) (fun _ _ _ _ h => h) (by rfl) ?_; apply Exists.intro; refine ⟨fun w1 h1 K hK => ?_, ?_⟩; · ( go_big_quiet_op; first | exact hK | fail))
  (refine wpAnyG_take (i := 7) hCC ⟨_, hC0⟩ rfl (by kernel_rfl) (by kernel_rfl) (by kernel_rfl) (fun _ _ _ _ h => h) (by rfl) ?_; apply Exists.intro; refine ⟨fun w1 h1 K hK => ?_, ?_⟩; · ( go_big_quiet_op; first | exact hK | fail))
  (refine wpAnyG_take (i := 8) hCC ⟨_, hC0⟩ rfl (by kernel_rfl) (by kernel_rfl) (by kernel_rfl) (fun _ _ _ _ h => h) (by rfl) ?_; apply Exists.intro; refine ⟨fun w1 h1 K hK => ?_, ?_⟩; · ( go_big_quiet_op; first | exact hK | fail))
  (refine wpAnyG_take (i := 9) hCC ⟨_, hC0⟩ rfl (by kernel_rfl) (by kernel_rfl) (by kernel_rfl) (fun _ _ _ _ h => h) (by rfl) ?_; apply Exists.intro; refine ⟨fun w1 h1 K hK => ?_, ?_⟩; · (have hZ : ∀ W : Aft w1, Same (fun b => b < X0.heap.size ∧ b ≠ gY) X0 W.val := fun W => (by obtain ⟨cs, h2⟩ := h1; exact (h2.on W.below).same);have zS : ∀ W : Aft w1, Box gS #[.int .i64 (s : Nat)] 3 W.val := fun W => HS0.out.same (hZ W) ⟨HS0.out.lt, nS⟩; have g0 : ∀ W : Aft w1, W.val.cell? ⟨gS, 0, none⟩ = some (.int .i64 (s : Nat)) := fun W => (zS W).cell 0 rfl; clear zS hZ; go_big_quiet_op; first | exact hK | fail))
  (refine wpAnyG_take (i := 10) hCC ⟨_, hC0⟩ rfl (by kernel_rfl) (by kernel_rfl) (by kernel_rfl) (fun _ _ _ _ h => h) (by rfl) ?_; apply Exists.intro; refine ⟨fun w1 h1 K hK => ?_, ?_⟩; · ( go_big_quiet_op; first | exact hK | fail))
  (refine wpAnyG_take (i := 11) hCC ⟨_, hC0⟩ rfl (by kernel_rfl) (by kernel_rfl) (by kernel_rfl) (fun _ _ _ _ h => h) (by rfl) ?_; apply Exists.intro; refine ⟨fun w1 h1 K hK => ?_, ?_⟩; · ( go_big_quiet_op; first | exact hK | fail))
  (refine wpAnyG_take (i := 12) hCC ⟨_, hC0⟩ rfl (by kernel_rfl) (by kernel_rfl) (by kernel_rfl) (fun _ _ _ _ h => h) (by rfl) ?_; apply Exists.intro; refine ⟨fun w1 h1 K hK => ?_, ?_⟩; · ( go_big_quiet_op; first | exact hK | fail))
  (refine wpAnyG_take (i := 13) hCC ⟨_, hC0⟩ rfl (by kernel_rfl) (by kernel_rfl) (by kernel_rfl) (fun _ _ _ _ h => h) (by rfl) ?_; apply Exists.intro; refine ⟨fun w1 h1 K hK => ?_, ?_⟩; · ( go_big_quiet_op; first | exact hK | fail))
  rw [shut_wrap hn hs]
  obtain ⟨sh, hsh⟩ : ∃ x, x = ((2 ^ t.n - 1 - 2 ^ s : Nat) : Int) := ⟨_, rfl⟩
  rw [← hsh]
  obtain ⟨v, hv⟩ : ∃ x, x = L + (t.u s).lo := ⟨_, rfl⟩
  rw [← hv]
  have HQ := Lib.hid (show t.rich ⟨sh, ⟨v, v⟩⟩ = y by rw [HY.out, hsh, hv]; rfl)
  clear hsh hv
  (refine wpAnyG_one (i := 0) (by kernel_rfl) rfl (by rfl) (fun wa hwa K hK => ?_))
  go_simp
  have hA0 := (hC0.on hwa).on (below_alloc1 wa (.cells #[] 49))
  have hL0 : X0.heap.size ≤ wa.heap.size := Nat.le_trans hC0.same.size hwa.size
  refine hK _ _ ⟨_, hA0⟩ ?_
  clear hK K
  have hown : (wa.alloc (.cells #[] 49)).ownsRow X0.heap.size 49 3 (.slice (some ⟨wa.heap.size, 0, none⟩) 0 0) 0 [] := owns_empty hL0 (heap_new rfl)
  clear hwa hC0
  obtain ⟨g0, hG⟩ : ∃ G, G = wa.heap.size := ⟨_, rfl⟩
  obtain ⟨wA, hWA⟩ : ∃ X, X = wa.alloc (.cells #[] 49) := ⟨_, rfl⟩
  rw [← hWA] at hown hA0 ⊢
  rw [← hG] at hown hL0 ⊢
  clear hG hWA
  have hC0 := hA0
  clear hA0
  (refine wpAnyG_one (i := 3) (by kernel_rfl) rfl (by rfl) (fun wa hwa K hK => ?_))
  have hC1 := hC0.on hwa
  have hown1 := owns_below hown hwa
  have hs4 : StpsAt wa ob t.m t.s := HS4.out.same4 hC1 HNB.out
  refine wp_append_gen (.tmp 17) (.tmp 19) 23 rfl X0.heap.size 49 iR _ 3 24 Tryd.underlying23 hiR hzR0 hzR1 hzR2 rfl (by omega) (.slice (some ⟨g0, 0, none⟩) 0 0) 0 [] rfl hown1 ob t.m cb (stpNews t.m t.s) rfl HNIL.out (stpNews_length _ _) (stps_news hs4) stps_one (by simp only [maxLen]; omega) (by omega) hC1.same.size (fun vS wS hownS hgrowS => ?_)
  have hA0 := hC1.grown hown1 (Nat.le_refl _) hgrowS
  rw [List.nil_append, Nat.zero_add] at hownS
  clear hown1 hs4 hgrowS hC1 hown hwa hC0
  obtain ⟨oV, cV, rfl, -⟩ := owns_form hownS
  go_simp
  refine hK _ _ ⟨_, hA0⟩ ?_
  clear hK K
  have hC0 := hA0
  have hown := hownS
  clear hA0 hownS
  (refine wpAnyG_take (i := 14) hCC ⟨_, hC0⟩ rfl (by kernel_rfl) (by kernel_rfl) (by kernel_rfl) (fun _ _ _ _ h => h) (by rfl) ?_; apply Exists.intro; refine ⟨fun w1 h1 K hK => ?_, ?_⟩; · ( go_big_quiet_op; first | exact hK | exact ⟨_, fun W => aft_call (span_any _ _ _), hK⟩))
  (refine wpAnyG_take (i := 15) hCC ⟨_, hC0⟩ rfl (by kernel_rfl) (by kernel_rfl) (by kernel_rfl) (fun _ _ _ _ h => h) (by rfl) ?_; apply Exists.intro; refine ⟨fun w1 h1 K hK => ?_, ?_⟩; · ( go_big_quiet_op; first | exact hK | fail))
  (refine wpAnyG_one (i := 16) (by kernel_rfl) rfl (by rfl) (fun wa hwa K hK => ?_))
  go_simp
  have hA0 := (hC0.on hwa).on (below_alloc1 wa (.cells #[.int .i64 sh, .int .i64 v, .int .i64 v] 49))
  refine hK _ _ ⟨_, hA0⟩ ?_
  clear hK K
  have zN := Box.new (g := wa.heap.size) #[.int .i64 sh, .int .i64 v, .int .i64 v] 49 wa rfl
  have hown2 := owns_below (owns_below hown hwa) (below_alloc1 wa (.cells #[.int .i64 sh, .int .i64 v, .int .i64 v] 49))
  clear hown
  clear hwa hC0
  obtain ⟨gN, hG⟩ : ∃ G, G = wa.heap.size := ⟨_, rfl⟩
  obtain ⟨wA, hWA⟩ : ∃ X, X = wa.alloc (.cells #[.int .i64 sh, .int .i64 v, .int .i64 v] 49) := ⟨_, rfl⟩
  rw [← hWA] at zN hA0 hown2 ⊢
  rw [← hG] at zN ⊢
  clear hG hWA
  have hC0 := hA0
  clear hA0
  have hown := hown2
  clear hown2
  (refine wpAnyG_one (i := 17) (by kernel_rfl) rfl (by rfl) (fun wa hwa K hK => ?_))
  have hC1 := hC0.on hwa
  have hown1 := owns_below hown hwa
  have zN1 := zN.below hwa
  refine wp_append_gen (.tmp 20) (.tmp 33) 23 rfl X0.heap.size 49 iR _ 3 24 Tryd.underlying23 hiR hzR0 hzR1 hzR2 rfl (by omega) (.slice oV t.m cV) t.m (stpNews t.m t.s) rfl hown1 (some ⟨gN, 0, none⟩) 1 1 [.int .i64 sh, .int .i64 v, .int .i64 v] rfl (fun e9 => by cases e9) rfl (fun ad9 e9 j9 u9 hu9 => by cases e9; rw [add_flat, Nat.zero_add]; exact zN1.cell j9 (by rw [List.getElem?_toArray]; exact hu9)) (by simp [Value.oneCell']) (by simp only [maxLen]; omega) (by omega) hC1.same.size (fun vS wS hownS hgrowS => ?_)
  have hA0 := hC1.grown hown1 (Nat.le_refl _) hgrowS
  have e9 := stpNews_rich t ⟨sh, ⟨v, v⟩⟩
  dsimp only at e9
  rw [e9] at hownS
  clear hown1 hgrowS hC1 hown hwa hC0 zN1 zN e9
  obtain ⟨oW, cW, rfl, -⟩ := owns_form hownS
  go_simp
  refine hK _ _ ⟨_, hA0⟩ ?_
  clear hK K
  (refine wpAnyG_one (i := 18) (by kernel_rfl) rfl (by rfl) (fun wb hwb K hK => ?_))
  go_simp
  refine hK _ _ ⟨_, hA0.on hwb⟩ ?_
  clear hK K
  (refine wpAnyG_one (i := 19) (by kernel_rfl) rfl (by rfl) (fun wc hwc K hK => ?_))
  have hA1 := (hA0.on hwb).on hwc
  have hownT := owns_below (owns_below hownS hwb) hwc
  refine wp_store_slice hA1.box rfl rfl rfl (by simp) (by kernel_rfl) (fun wd zd ho => ?_)
  dsimp only [Act.put]
  have hownU := owns_but hownT ho.but (own_ne hownT hA1.box (by decide))
  have hsd : Same (fun b => b < X0.heap.size ∧ b ≠ gY) X0 wd := hA1.same.trans ⟨ho.os, ho.tape, ho.output, Nat.le_of_eq ho.size.symm, fun b _ hp => ho.block b hp.2⟩
  have hA2 : AR gY #[.slice (some ⟨bu, ou, none⟩) t.n ca, .int .i64 t.leaks, .int .i64 t.least, .slice oW (t.m + 1) cW] X0 wd := ⟨hsd, zd, hA1.lt⟩
  refine hK _ _ ⟨_, hA2⟩ ?_
  clear hK K
  refine wpAnyG_done (by kernel_rfl) (fun wz hwz => ?_) _
  have hA := hA2.on hwz
  have hst9 := owns_below hownU hwz
  clear hA2 hwz hownU hownT hA1 hsd ho hownS hA0 hwb hwc zd
  obtain ⟨oa9, ca9, e9, hst⟩ := owns_stps hst9
  cases e9
  have hl5 : Below w.heap.size w wz := by
    have h4 := HB0.out
    refine ⟨hA.same.os.trans h4.os, hA.same.tape.trans h4.tape, hA.same.output.trans h4.output, Nat.le_trans h4.size hA.same.size, fun k9 hk9 => ?_⟩
    rw [hA.same.block k9 (by have := h4.size; omega) ⟨by have := h4.size; omega, by omega⟩]
    exact h4.block k9 hk9
  have HL5 := Lib.hid hl5
  have HYY := Lib.hid hA.box
  have HRR := Lib.hid (ZR.out.same hA.same ⟨ZR.out.lt, nR⟩)
  have HSY := Lib.hid hst
  have HSB := Lib.hid (HS0.out.same hA.same ⟨HS0.out.lt, nS⟩)
  have HMM := Lib.hid (show Mem t (some ⟨bu, ou, none⟩) ob wz from HMW.out.on hl5)
  clear hl5 hA hst hst9 HS4 HNB HB0 HX0 HS0 HM0 ZR ZY iR hiR hzR0 hzR1 hzR2 HNIL hCC
  have y0 := HYY.out.cell 0 (v := .slice (some ⟨bu, ou, none⟩) t.n ca) rfl
  have y1 := HYY.out.cell 1 (v := .int .i64 t.leaks) rfl
  have y2 := HYY.out.cell 2 (v := .int .i64 t.least) rfl
  have y3 := HYY.out.cell 3 (v := .slice oW (t.m + 1) cW) rfl
  have y4 := HYY.out.lt
  have d0 := HSB.out.cell 0 (v := .int .i64 (s : Nat)) rfl
  have d1 := HSB.out.lt
  have HCL := Lib.hid (fun W (hM : Mem t (some ⟨bu, ou, none⟩) ob W) (hs9 : StpsAt W oW (t.m + 1) (t.rich ⟨sh, ⟨v, v⟩⟩).s) => leak_any (t.rich ⟨sh, ⟨v, v⟩⟩) (some ⟨bu, ou, none⟩) ca oW cW (s : Nat) W (show t.n ≤ 1000000 by omega) (show t.m + 1 ≤ 1000000 by omega) hM.u hs9 hM.T hM.l)
  go_wp2_with fail
  refine (HCL.out _ HMM.out HSY.out).mono ?_
  rintro e X7 ⟨rfl, hb7⟩
  have HL7 := Lib.hid (HL5.out.trans (hb7.mono HL5.out.size))
  have HR7 := Lib.hid (HRR.out.below hb7)
  clear hb7 HL5 HYY HRR HSY HSB HMM HCL y0 y1 y2 y3 y4 d0 d1
  rw [HQ.out]
  have r0 := HR7.out.cell 0 (v := .int .i64 0) rfl
  have r1 := HR7.out.cell 1 (v := .int .i64 0) rfl
  have r2 := HR7.out.lt
  have r3 := HR7.out.frozen 0
  have r4 := HR7.out.frozen 1
  go_wp2_with fail
  have z := HR7.out.set2 (.int .i64 (y.leakR s).lo) (.int .i64 (y.leakR s).hi)
  have hl7 := HL7.out
  have hb8 : Below w.heap.size w ((X7.setCell ⟨w.heap.size, 0, none⟩ (.int .i64 (y.leakR s).lo)).setCell ⟨w.heap.size, 1, none⟩ (.int .i64 (y.leakR s).hi)) := (by repeat' (first | exact Below.refl _ _ | assumption | apply below_drewN | apply Below.drew | (refine Below.alloc ?_ ?_ _) | (refine Below.setCell ?_ ?_ _) | (simp; done) | (simp; omega) | omega))
  clear hl7 r0 r1 r2 r3 r4
  obtain ⟨X8, hX8⟩ : ∃ X, X = ((X7.setCell ⟨w.heap.size, 0, none⟩ (.int .i64 (y.leakR s).lo)).setCell ⟨w.heap.size, 1, none⟩ (.int .i64 (y.leakR s).hi)) := ⟨_, rfl⟩
  rw [← hX8] at z hb8 ⊢
  clear hX8
  have z0 := z.cell 0 (v := .int .i64 (y.leakR s).lo) rfl
  have z1 := z.cell 1 (v := .int .i64 (y.leakR s).hi) rfl
  refine bodyPost_ret (v := .tuple #[.agg #[.int .i64 (y.leakR s).lo, .int .i64 (y.leakR s).hi], .int .i64 (y.leakErr s)]) (by simp [results, Tryd.results23, go_sem, z0, z1]) rfl ⟨rfl, hb8⟩
def spnNews (n : Nat) (f : Nat → Spn) : List Value := (List.range n).flatMap fun i => [.int .i64 (f i).lo, .int .i64 (f i).hi]
theorem spnNews_succ (n : Nat) (f : Nat → Spn) : spnNews (n + 1) f = spnNews n f ++ [.int .i64 (f n).lo, .int .i64 (f n).hi] := by simp [spnNews, List.range_succ, List.flatMap_append]
theorem spnNews_length (n : Nat) (f : Nat → Spn) : (spnNews n f).length = n * 2 := by
  induction n with
  | zero => rfl
  | succ n ih => rw [spnNews_succ, List.length_append, ih]; simp; omega
theorem spnNews_get {n : Nat} {f : Nat → Spn} {i : Nat} (hi : i < n) : (spnNews n f)[i * 2]? = some (.int .i64 (f i).lo) ∧ (spnNews n f)[i * 2 + 1]? = some (.int .i64 (f i).hi) := by
  induction n with
  | zero => omega
  | succ n ih =>
    rw [spnNews_succ]
    have hl := spnNews_length n f
    by_cases h : i = n
    · subst h
      rw [List.getElem?_append_right (by omega), List.getElem?_append_right (by omega), hl]
      simp [show i * 2 + 1 - i * 2 = 1 by omega]
    · obtain ⟨h0, h1⟩ := ih (by omega)
      rw [List.getElem?_append_left (by omega), List.getElem?_append_left (by omega)]
      exact ⟨h0, h1⟩
theorem spns_news {w : World} {oa : Option Addr} {n : Nat} {f : Nat → Spn} (h : SpnsAt w oa n f) : ∀ ad, oa = some ad → ∀ j u, (spnNews n f)[j]? = some u → w.cell? (ad.add j) = some u := fun ad had j u hu => by
  have hj : j < n * 2 := by
    obtain ⟨hl, -⟩ := List.getElem?_eq_some_iff.1 hu
    rw [spnNews_length] at hl; exact hl
  obtain ⟨b, off, e, -, c0, c1⟩ := h (j / 2) (by omega)
  rw [had] at e
  cases e
  obtain ⟨h0, h1⟩ := spnNews_get (n := n) (f := f) (i := j / 2) (by omega)
  rw [add_flat]
  rcases (by omega : j = j / 2 * 2 ∨ j = j / 2 * 2 + 1) with hj3 | hj3
  · rw [← hj3] at h0; rw [h0] at hu; cases hu
    rw [← hj3] at c0; exact c0
  · rw [← hj3] at h1; rw [h1] at hu; cases hu
    rw [Nat.add_assoc, ← hj3] at c1; exact c1
theorem spns_one {n : Nat} {f : Nat → Spn} : ∀ u ∈ spnNews n f, u.oneCell' = true := fun u hu => by
  simp only [spnNews, List.mem_flatMap] at hu
  obtain ⟨i, -, h⟩ := hu
  simp at h
  rcases h with rfl | rfl <;> rfl
theorem owns_box {w : World} {base e size n : Nat} {v : Value} {xs : List Value} (h : w.ownsRow base e size v n xs) (hn : 0 < n) : ∃ g cap cur, v = .slice (some ⟨g, 0, none⟩) n cap ∧ Box g cur e w ∧ base ≤ g ∧ n * size ≤ cur.size ∧ cur.toList.take (n * size) = xs := by
  obtain ⟨hl, h⟩ := h
  rcases h with ⟨rfl, rfl⟩ | ⟨g, cap, cur, rfl, hb, hg, hn2, hc, hcs, hx⟩
  · omega
  · exact ⟨g, cap, cur, rfl, ⟨hg⟩, hb, by rw [hcs]; exact Nat.mul_le_mul_right _ hn2, hx⟩
theorem take_get {cur : Array Value} {xs : List Value} {k j : Nat} {u : Value} (h : cur.toList.take k = xs) (hu : xs[j]? = some u) : cur[j]? = some u := by
  rw [← h, List.getElem?_take] at hu
  split at hu
  · simpa using hu
  · cases hu
/-- one span of a row is made exact -/
theorem spns_exact {W : World} {g : Nat} {cur : Array Value} {t : Tst} {s : Nat} (hs : s < t.n) (hsz : t.n * 2 ≤ cur.size) (hx : cur.toList.take (t.n * 2) = spnNews t.n t.u) (hB : Box g (cur.setIfInBounds (s * 2 + 1) (.int .i64 (t.u s).lo)) 37 W) : SpnsAt W (some ⟨g, 0, none⟩) t.n (t.exact s).u := fun i hi => by
  obtain ⟨h0, h1⟩ := spnNews_get (f := t.u) hi
  have k0 := take_get hx h0
  have k1 := take_get hx h1
  refine ⟨g, 0, rfl, hB.lt, ?_, ?_⟩
  · rw [Nat.zero_add]
    refine hB.cell (i * 2) ?_
    rw [Array.getElem?_setIfInBounds, if_neg (by omega), k0]
    show _ = some (Value.int .i64 (if i = s then (⟨(t.u i).lo, (t.u i).lo⟩ : Spn) else t.u i).lo)
    split <;> rfl
  · rw [Nat.zero_add]
    refine hB.cell (i * 2 + 1) ?_
    rw [Array.getElem?_setIfInBounds]
    show _ = some (Value.int .i64 (if i = s then (⟨(t.u i).lo, (t.u i).lo⟩ : Spn) else t.u i).hi)
    by_cases his : i = s
    · subst his
      rw [if_pos rfl, if_pos (by omega), if_pos rfl]
    · rw [if_neg (by omega), if_neg his, k1]
/-- what StepEnds keeps -/
structure EI (t : Tst) (oa : Option Addr) (ca : Nat) (ob : Option Addr) (cb : Nat) (z : Int) (w W : World) : Prop where
  low : Below w.heap.size w W
  hT : TB t oa ca ob cb w.heap.size W
  hS : Box (w.heap.size + 1) #[.int .i64 z] 3 W
  mem : Mem t oa ob W
theorem EI.on {t : Tst} {oa : Option Addr} {ca : Nat} {ob : Option Addr} {cb : Nat} {z : Int} {w A B : World} (h : EI t oa ca ob cb z w A) (hb : Below A.heap.size A B) : EI t oa ca ob cb z w B :=
  ⟨h.low.trans (hb.mono h.low.size), h.hT.below hb, h.hS.below hb, h.mem.on hb⟩
/-- a world in which one row may have been written behind one cell -/
structure UR (gU gA gS j : Nat) (lo : Int) (TU : Array Value) (s : Nat) (X A : World) : Prop where
  same : Same (fun b => b < X.heap.size ∧ b ≠ gU) X A
  zA : Box gA TU 25 A
  zS : Box gS #[.int .i64 (s : Nat)] 3 A
  zU : ∃ cs, Box gU cs 37 A ∧ cs[j]? = some (.int .i64 lo)
theorem UR.on {gU gA gS j : Nat} {lo : Int} {TU : Array Value} {s : Nat} {X A B : World} (h : UR gU gA gS j lo TU s X A) (hb : Below A.heap.size A B) : UR gU gA gS j lo TU s X B :=
  ⟨h.same.trans (Same.of_below hb fun _ hk _ => hk), h.zA.below hb, h.zS.below hb, by obtain ⟨cs, k1, k2⟩ := h.zU; exact ⟨cs, k1.below hb, k2⟩⟩
theorem UR.u0 {gU gA gS j : Nat} {lo : Int} {TU : Array Value} {s : Nat} {X A : World} (h : UR gU gA gS j lo TU s X A) : A.cell? ⟨gU, j, none⟩ = some (.int .i64 lo) := by
  obtain ⟨cs, k1, k2⟩ := h.zU; exact k1.cell j k2
set_option maxRecDepth 100000 in
set_option maxHeartbeats 8000000 in
theorem stepEnds_any (t : Tst) (oa : Option Addr) (ca : Nat) (ob : Option Addr) (cb : Nat) (z : Int) (w : World) (hM : Mem t oa ob w) (hnl : oa = none → t.n = 0 ∧ ca = 0) (hnil : ob = none → t.m = 0 ∧ cb = 0) :
    Calls Tryd.prog 6 #[t.val oa ca ob cb, .int .i64 z] w fun e w' => e = .returned (.bool true) ∧ Below w.heap.size w w' := by
  have HM := Lib.hid hM
  have HNL := Lib.hid hnl
  have HNIL := Lib.hid hnil
  clear hM hnil hnl
  go_enter Tryd.func6, Tryd.ntmps6
  go_wp2_with fail
  have hI0 : EI t oa ca ob cb z w ((w.alloc (.cells #[.slice oa t.n ca, .int .i64 t.leaks, .int .i64 t.least, .slice ob t.m cb] 25)).alloc (.cells #[.int .i64 z] 3)) := ⟨(by repeat' (first | exact Below.refl _ _ | assumption | apply below_drewN | apply Below.drew | (refine Below.alloc ?_ ?_ _) | (refine Below.setCell ?_ ?_ _) | (simp; done) | (simp; omega) | omega)), (Box.new _ 25 w rfl).old _, Box.new _ 3 _ (by simp), HM.out.on ((by repeat' (first | exact Below.refl _ _ | assumption | apply below_drewN | apply Below.drew | (refine Below.alloc ?_ ?_ _) | (refine Below.setCell ?_ ?_ _) | (simp; done) | (simp; omega) | omega)))⟩
  obtain ⟨X0, hW⟩ : ∃ X, X = ((w.alloc (.cells #[.slice oa t.n ca, .int .i64 t.leaks, .int .i64 t.least, .slice ob t.m cb] 25)).alloc (.cells #[.int .i64 z] 3)) := ⟨_, rfl⟩
  rw [← hW] at hI0 ⊢
  clear hW
  refine (large_any t oa ca ob cb _).mono ?_
  rintro e X1 ⟨rfl, hb⟩
  have I1 := Lib.hid (hI0.on hb)
  clear hI0 hb
  cases hl : largeB t.n t.m
  case true =>
    clear hl
    go_wp2_with fail
    refine (awake_any _ I1.out.mem.T I1.out.mem.l).mono ?_
    rintro e X2 ⟨rfl, hb⟩
    have I2 := Lib.hid (I1.out.on hb)
    clear hb
    go_wp2_with fail
    go_ret
    exact ⟨rfl, I2.out.low⟩
  case false =>
    have hn : t.n ≤ 1000000 ∧ t.m ≤ 1000000 := by
      simp only [largeB, Bool.or_eq_false_iff, decide_eq_false_iff_not] at hl
      omega
    clear hl
    obtain ⟨hn, hm⟩ := hn
    obtain ⟨c0, c1, c2, c3, c4⟩ := TB.cells I1.out.hT
    have d0 := I1.out.hS.cell 0 (v := .int .i64 z) rfl
    have d1 := I1.out.hS.lt
    by_cases hm12 : 12 ≤ t.m
    · have hd : decide (12 ≤ t.m) = true := by simpa using hm12
      go_wp2_with fail
      refine (awake_any _ I1.out.mem.T I1.out.mem.l).mono ?_
      rintro e X2 ⟨rfl, hb⟩
      have I2 := Lib.hid (I1.out.on hb)
      clear hb
      go_wp2_with fail
      go_ret
      exact ⟨rfl, I2.out.low⟩
    have hd : decide (12 ≤ t.m) = false := by simpa using hm12
    by_cases hz0 : z < 0
    · have hz9 : decide (z < 0) = true := by simpa using hz0
      go_wp2_with fail
      refine (awake_any _ I1.out.mem.T I1.out.mem.l).mono ?_
      rintro e X2 ⟨rfl, hb⟩
      have I2 := Lib.hid (I1.out.on hb)
      clear hb
      go_wp2_with fail
      go_ret
      exact ⟨rfl, I2.out.low⟩
    have hz9 : decide (z < 0) = false := by simpa using hz0
    obtain ⟨s, rfl⟩ : ∃ s : Nat, z = s := ⟨z.toNat, by omega⟩
    clear hz0
    by_cases hs : t.n ≤ s
    · have hz8 : decide (t.n ≤ s) = true := by simpa using hs
      have hz7 : decide ((t.n : Int) ≤ (s : Int)) = true := decide_eq_true (by omega)
      go_wp2_with fail
      refine (awake_any _ I1.out.mem.T I1.out.mem.l).mono ?_
      rintro e X2 ⟨rfl, hb⟩
      have I2 := Lib.hid (I1.out.on hb)
      clear hb
      go_wp2_with fail
      go_ret
      exact ⟨rfl, I2.out.low⟩
    have hz8 : decide (t.n ≤ s) = false := by simpa using hs
    have hz7 : decide ((t.n : Int) ≤ (s : Int)) = false := decide_eq_false (by omega)
    replace hs : s < t.n := by omega
    go_upto_region 4 with fail
    have hI2 := I1.out.on (below_alloc1 X1 (.cells #[.slice oa t.n ca, .int .i64 t.leaks, .int .i64 t.least, .slice ob t.m cb] 25))
    have zA := Box.new (g := X1.heap.size) #[.slice oa t.n ca, .int .i64 t.leaks, .int .i64 t.least, .slice ob t.m cb] 25 X1 rfl
    have lA : w.heap.size + 2 ≤ X1.heap.size := by have := I1.out.hS.lt; omega
    obtain ⟨X2, hW⟩ : ∃ X, X = X1.alloc (.cells #[.slice oa t.n ca, .int .i64 t.leaks, .int .i64 t.least, .slice ob t.m cb] 25) := ⟨_, rfl⟩
    rw [← hW] at hI2 zA ⊢
    clear hW
    obtain ⟨gA, hG⟩ : ∃ G, G = X1.heap.size := ⟨_, rfl⟩
    rw [← hG] at zA lA ⊢
    clear hG
    have I2 := Lib.hid hI2
    have ZA := Lib.hid zA
    clear hI2 zA I1 c0 c1 c2 c3 c4 d0 d1 hz8 hz7 hz9 hd
    obtain ⟨c0, c1, c2, c3, c4⟩ := TB.cells I2.out.hT
    obtain ⟨iU, hiU, hzU0, hzU1, hzU2⟩ := info_parts (P := Tryd.prog) (e := 37) (z := .agg #[.int .i64 0, .int .i64 0]) (size := 2) (bytes := 16) (by kernel_rfl)
    have HOE := Lib.hid (show (X2.alloc (.cells #[] 37)).ownsRow X2.heap.size 37 2 (.slice (some ⟨X2.heap.size, 0, none⟩) 0 0) 0 [] from owns_empty (Nat.le_refl _) (heap_new rfl))
    have HSN := Lib.hid (spns_news (I2.out.mem.u.mono (below_alloc1 X2 (.cells #[] 37))))
    go_wp2_with (at_builtin; (refine wpList_append_gen rfl (.tmp 38) (.tmp 40) 22 rfl X2.heap.size 37 iU _ 2 16 Tryd.underlying22 hiU hzU0 hzU1 hzU2 rfl (by omega) (.slice (some ⟨X2.heap.size, 0, none⟩) 0 0) 0 [] rfl oa t.n ca (spnNews t.n t.u) rfl HOE.out HNL.out (spnNews_length _ _) HSN.out spns_one (by simp only [maxLen]; omega) (by omega) (by simp) ?_; intro vS wS hownS hgrowS; rw [List.nil_append, Nat.zero_add] at hownS; have zS := box_grown (ZA.out.old (.cells #[] 37)) HOE.out (by decide) hgrowS; have hlS := below_grown (below_alloc1 X2 (.cells #[] 37)) HOE.out hgrowS; obtain ⟨gU, cU, cur, rfl, hBU, hgU, hsz, hx⟩ := owns_box hownS (by omega); clear hownS hgrowS; have a0 := zS.cell 0 rfl; have a1 := zS.lt; have a2 := zS.frozen 0))
    have ho1 := (Only.refl gA wS).setCell 0 (.slice (some ⟨gU, 0, none⟩) t.n cU)
    have hE1 := I2.out.on hlS
    have nA0 : w.heap.size ≠ gA := by omega
    have nA1 : w.heap.size + 1 ≠ gA := by omega
    have hl3 := hE1.low.trans (ho1.below (B := w.heap.size) (by omega))
    have hE3 : EI t oa ca ob cb (s : Nat) w (wS.setCell ⟨gA, 0, none⟩ (.slice (some ⟨gU, 0, none⟩) t.n cU)) := ⟨hl3, ho1.box hE1.hT nA0, ho1.box hE1.hS nA1, HM.out.on hl3⟩
    have nUA : gU ≠ gA := by have := ZA.out.lt; omega
    have nU0 : w.heap.size + 1 < gU := by have := I2.out.hS.lt; omega
    have hB3 := ho1.box hBU nUA
    have zA3 : Box gA #[.slice (some ⟨gU, 0, none⟩) t.n cU, .int .i64 t.leaks, .int .i64 t.least, .slice ob t.m cb] 25 (wS.setCell ⟨gA, 0, none⟩ (.slice (some ⟨gU, 0, none⟩) t.n cU)) := zS.set 0 (.slice (some ⟨gU, 0, none⟩) t.n cU)
    obtain ⟨X3, hW⟩ : ∃ X, X = wS.setCell ⟨gA, 0, none⟩ (.slice (some ⟨gU, 0, none⟩) t.n cU) := ⟨_, rfl⟩
    rw [← hW] at hE3 hB3 zA3 ⊢
    clear hW ho1 hE1 hl3 zS hlS hBU a0 a1 a2 I2 ZA HOE HSN hgU hiU hzU0 hzU1 hzU2 iU c0 c1 c2 c3 c4
    have I3 := Lib.hid hE3
    have k0 := (spnNews_get (f := t.u) hs).1
    have kU := take_get hx k0
    have hx2 : s * 2 + 1 < cur.size := by omega
    have hUR : UR gU gA (w.heap.size + 1) (s * 2) (t.u s).lo #[.slice (some ⟨gU, 0, none⟩) t.n cU, .int .i64 t.leaks, .int .i64 t.least, .slice ob t.m cb] s X3 X3.drew := ⟨(Same.refl _ _).drew, zA3.drew, hE3.hS.drew, cur, hB3.drew, kU⟩
    have hBd := hB3.drew
    have HXX := Lib.hid hx
    have HSZ := Lib.hid hsz
    clear hE3 k0 kU hx hsz hB3 zA3
    have hCC : ∀ A B : World, UR gU gA (w.heap.size + 1) (s * 2) (t.u s).lo #[.slice (some ⟨gU, 0, none⟩) t.n cU, .int .i64 t.leaks, .int .i64 t.least, .slice ob t.m cb] s X3 A → Below A.heap.size A B → UR gU gA (w.heap.size + 1) (s * 2) (t.u s).lo #[.slice (some ⟨gU, 0, none⟩) t.n cU, .int .i64 t.leaks, .int .i64 t.least, .slice ob t.m cb] s X3 B := fun A B h1 h2 => h1.on h2
    have hC0 := hUR
    clear hUR
    have hi0 : (0 : Int) ≤ (s : Int) := by omega
    have hi1 : (s : Int) < (t.n : Int) := by omega
    have nUS : w.heap.size + 1 ≠ gU := by omega
    refine wp_region_garb (UR gU gA (w.heap.size + 1) (s * 2) (t.u s).lo #[.slice (some ⟨gU, 0, none⟩) t.n cU, .int .i64 t.leaks, .int .i64 t.least, .slice ob t.m cb] s X3) (by kernel_rfl) ?_
    (refine wpAnyG_take (i := 0) hCC hC0 rfl (by kernel_rfl) (by kernel_rfl) (by kernel_rfl) (fun _ _ _ _ h => h) (by rfl) ?_; apply Exists.intro; refine ⟨fun w1 h1 K hK => ?_, ?_⟩; · ( go_big_quiet_op; first | exact hK | fail))
    (refine wpAnyG_take (i := 1) hCC hC0 rfl (by kernel_rfl) (by kernel_rfl) (by kernel_rfl) (fun _ _ _ _ h => h) (by rfl) ?_; apply Exists.intro; refine ⟨fun w1 h1 K hK => ?_, ?_⟩; · (have g0 : ∀ W : Aft w1, W.val.cell? ⟨gA, 0, none⟩ = some (.slice (some ⟨gU, 0, none⟩) t.n cU) := fun W => ((hCC _ _ h1 W.below).zA).cell 0 rfl; go_big_quiet_op; first | exact hK | fail))
    (refine wpAnyG_take (i := 2) hCC hC0 rfl (by kernel_rfl) (by kernel_rfl) (by kernel_rfl) (fun _ _ _ _ h => h) (by rfl) ?_; apply Exists.intro; refine ⟨fun w1 h1 K hK => ?_, ?_⟩; · (have g0 : ∀ W : Aft w1, W.val.cell? ⟨w.heap.size + 1, 0, none⟩ = some (.int .i64 (s : Nat)) := fun W => ((hCC _ _ h1 W.below).zS).cell 0 rfl; go_big_quiet_op; first | exact hK | fail))
    (refine wpAnyG_take (i := 3) hCC hC0 rfl (by kernel_rfl) (by kernel_rfl) (by kernel_rfl) (fun _ _ _ _ h => h) (by rfl) ?_; apply Exists.intro; refine ⟨fun w1 h1 K hK => ?_, ?_⟩; · ( go_big_quiet_op; first | exact hK | fail))
    (refine wpAnyG_take (i := 4) hCC hC0 rfl (by kernel_rfl) (by kernel_rfl) (by kernel_rfl) (fun _ _ _ _ h => h) (by rfl) ?_; apply Exists.intro; refine ⟨fun w1 h1 K hK => ?_, ?_⟩; · (have g0 : ∀ W : Aft w1, W.val.cell? ⟨gA, 0, none⟩ = some (.slice (some ⟨gU, 0, none⟩) t.n cU) := fun W => ((hCC _ _ h1 W.below).zA).cell 0 rfl; go_big_quiet_op; first | exact hK | fail))
    (refine wpAnyG_take (i := 5) hCC hC0 rfl (by kernel_rfl) (by kernel_rfl) (by kernel_rfl) (fun _ _ _ _ h => h) (by rfl) ?_; apply Exists.intro; refine ⟨fun w1 h1 K hK => ?_, ?_⟩; · (have g0 : ∀ W : Aft w1, W.val.cell? ⟨w.heap.size + 1, 0, none⟩ = some (.int .i64 (s : Nat)) := fun W => ((hCC _ _ h1 W.below).zS).cell 0 rfl; go_big_quiet_op; first | exact hK | fail))
    (refine wpAnyG_take (i := 6) hCC hC0 rfl (by kernel_rfl) (by kernel_rfl) (by kernel_rfl) (fun _ _ _ _ h => h) (by rfl) ?_; apply Exists.intro; refine ⟨fun w1 h1 K hK => ?_, ?_⟩; · ( go_big_quiet_op; first | exact hK | fail))
    (refine wpAnyG_take (i := 7) hCC hC0 rfl (by kernel_rfl) (by kernel_rfl) (by kernel_rfl) (fun _ _ _ _ h => h) (by rfl) ?_; apply Exists.intro; refine ⟨fun w1 h1 K hK => ?_, ?_⟩; · ( go_big_quiet_op; first | exact hK | fail))
    (refine wpAnyG_take (i := 8) hCC hC0 rfl (by kernel_rfl) (by kernel_rfl) (by kernel_rfl) (fun _ _ _ _ h => h) (by rfl) ?_; apply Exists.intro; refine ⟨fun w1 h1 K hK => ?_, ?_⟩; · (have g0 : ∀ W : Aft w1, W.val.cell? ⟨gU, s * 2, none⟩ = some (.int .i64 (t.u s).lo) := fun W => (hCC _ _ h1 W.below).u0; go_big_quiet_op; first | exact hK | fail))
    (refine wpAnyG_one (i := 9) (by kernel_rfl) rfl (by rfl) (fun wa hwa K hK => ?_))
    go_simp
    refine hK _ _ (hCC _ _ hC0 hwa) ?_
    clear hK K
    (refine wpAnyG_one (i := 10) (by kernel_rfl) rfl (by rfl) (fun wb hwb K hK => ?_))
    go_simp
    refine hK _ _ (hCC _ _ (hCC _ _ hC0 hwa) hwb) ?_
    clear hK K
    (refine wpAnyG_one (i := 11) (by kernel_rfl) rfl (by rfl) (fun wc hwc K hK => ?_))
    have hC1 := hCC _ _ (hCC _ _ (hCC _ _ hC0 hwa) hwb) hwc
    have hB1 := ((hBd.below hwa).below hwb).below hwc
    refine wp_store_int hB1 rfl rfl rfl hx2 (by kernel_rfl) (fun wd zd ho => ?_)
    dsimp only [Act.put]
    have hsd : Same (fun b => b < X3.heap.size ∧ b ≠ gU) X3 wd := hC1.same.trans ⟨ho.os, ho.tape, ho.output, Nat.le_of_eq ho.size.symm, fun b _ hp => ho.block b hp.2⟩
    have hC2 : UR gU gA (w.heap.size + 1) (s * 2) (t.u s).lo #[.slice (some ⟨gU, 0, none⟩) t.n cU, .int .i64 t.leaks, .int .i64 t.least, .slice ob t.m cb] s X3 wd := ⟨hsd, ho.box hC1.zA (Ne.symm nUA), ho.box hC1.zS nUS, _, zd, by
      obtain ⟨cs, q1, q2⟩ := hC1.zU
      have q3 := hB1.row.symm.trans q1.row
      simp only [Option.some.injEq, Obj.cells.injEq] at q3
      obtain ⟨rfl, -⟩ := q3
      rw [Array.getElem?_setIfInBounds, if_neg (by omega)]; exact q2⟩
    refine hK _ _ hC2 ?_
    clear hK K
    refine wpAnyG_done (by kernel_rfl) (fun wz hwz => ?_) _
    have hC3 := hCC _ _ hC2 hwz
    have hz := zd.below hwz
    have hsp := spns_exact hs HSZ.out HXX.out hz
    have hE3 := I3.out
    have hl4 : Below w.heap.size w wz := by
      have h4 := hE3.low
      refine ⟨hC3.same.os.trans h4.os, hC3.same.tape.trans h4.tape, hC3.same.output.trans h4.output, Nat.le_trans h4.size hC3.same.size, fun k9 hk9 => ?_⟩
      rw [hC3.same.block k9 (by have := h4.size; omega) ⟨by have := h4.size; omega, by omega⟩]
      exact h4.block k9 hk9
    have hE4 : EI t oa ca ob cb (s : Nat) w wz := ⟨hl4, hE3.hT.same hC3.same ⟨hE3.hT.lt, by omega⟩, hC3.zS, HM.out.on hl4⟩
    have hM4 : Mem (t.exact s) (some ⟨gU, 0, none⟩) ob wz := ⟨hsp, hE4.mem.s, hE4.mem.T, hE4.mem.l⟩
    have hZ4 := hC3.zA
    obtain ⟨X4, hW⟩ : ∃ X, X = wz := ⟨_, rfl⟩
    rw [← hW] at hE4 hM4 hZ4 ⊢
    clear hW hl4 hE3 hsp hz hC3 hC2 hsd hC1 hB1 hC0 hBd hCC zd ho hwa hwb hwc hwz I3 HXX HSZ hx2
    have I4 := Lib.hid hE4
    have M4 := Lib.hid hM4
    have Z4 := Lib.hid hZ4
    clear hE4 hM4 hZ4
    have HLK := Lib.hid (fun W (hM : Mem (t.exact s) (some ⟨gU, 0, none⟩) ob W) => leak_any (t.exact s) (some ⟨gU, 0, none⟩) cU ob cb (s : Nat) W (show t.n ≤ 1000000 by omega) (show t.m ≤ 1000000 by omega) hM.u hM.s hM.T hM.l)
    obtain ⟨er, her⟩ : ∃ x, x = (t.exact s).leakErr s := ⟨_, rfl⟩
    obtain ⟨fl, hfl⟩ : ∃ x, x = (t.exact s).leakR s := ⟨_, rfl⟩
    rw [← her, ← hfl] at HLK
    have HER := Lib.hid her
    have HFL := Lib.hid hfl
    clear her hfl
    have c0 := Z4.out.cell 0 (v := .slice (some ⟨gU, 0, none⟩) t.n cU) rfl
    have c1 := Z4.out.cell 1 (v := .int .i64 t.leaks) rfl
    have c2 := Z4.out.cell 2 (v := .int .i64 t.least) rfl
    have c3 := Z4.out.cell 3 (v := .slice ob t.m cb) rfl
    have c4 := Z4.out.lt
    have d0 := I4.out.hS.cell 0 (v := .int .i64 (s : Nat)) rfl
    have d1 := I4.out.hS.lt
    go_wp2_with fail
    refine (HLK.out _ M4.out).mono ?_
    rintro e X5 ⟨rfl, hb5⟩
    have I5 := Lib.hid (I4.out.on hb5)
    have M5 := Lib.hid (M4.out.on hb5)
    have Z5 := Lib.hid (Z4.out.below hb5)
    clear hb5 I4 M4 Z4 c0 c1 c2 c3 c4 d0 d1 HLK
    cases hcase : (er == 0)
    case false =>
      have hne : er ≠ 0 := by simpa using hcase
      have hfl0 : fl = ⟨0, 0⟩ := by rw [HFL.out]; unfold Tst.leakR; rw [if_neg (by rw [← HER.out]; exact hne)]
      subst hfl0
      go_upto_region 8 with fail
      have hI1 := I5.out.on (below_alloc1 X5 (.cells #[.int .i64 0, .int .i64 0] 37))
      have hR := Box.new (g := X5.heap.size) #[.int .i64 0, .int .i64 0] 37 X5 rfl
      obtain ⟨X6, hW⟩ : ∃ X, X = X5.alloc (.cells #[.int .i64 0, .int .i64 0] 37) := ⟨_, rfl⟩
      rw [← hW] at hI1 hR ⊢
      clear hW
      have I1 := Lib.hid hI1
      clear hI1
      have r0 := hR.cell 0 (v := .int .i64 0) rfl
      have r1 := hR.cell 1 (v := .int .i64 0) rfl
      have r2 := hR.lt
      clear hR
      go_wp2_with fail
      refine (awake_any _ I1.out.mem.T I1.out.mem.l).mono ?_
      rintro e X2 ⟨rfl, hb⟩
      have I2 := Lib.hid (I1.out.on hb)
      clear hb
      go_wp2_with fail
      go_ret
      exact ⟨rfl, I2.out.low⟩
    case true =>
      have he0 : er = 0 := by simpa using hcase
      subst he0
      go_upto_region 9 with fail
      obtain ⟨hv, f1, f2, f3⟩ := leak_facts (t := t.exact s) hs HER.out.symm
      rw [← HFL.out] at f1 f2 f3
      have f2 : t.least ≤ fl.lo := f2
      have HOK := Lib.hid (Tst.ok hv)
      have HVV := Lib.hid hv
      have hu0 : 0 ≤ (t.u s).lo ∧ (t.u s).lo ≤ 1073741824 := by
        have h9 := HOK.out.u s hs
        have h8 := exact_lo t s
        have h7 := exact_hi t s
        simp only [litB, spanB, decide_eq_true_eq] at h9
        omega
      obtain ⟨hu0, hu1⟩ := hu0
      have hle0 : 1 ≤ t.least := HOK.out.e0
      have hn10 : t.n ≤ 10 := HOK.out.n2
      have hI6 := I5.out.on (below_alloc1 X5 (.cells #[.int .i64 fl.lo, .int .i64 fl.hi] 37))
      have hM6 := M5.out.on (below_alloc1 X5 (.cells #[.int .i64 fl.lo, .int .i64 fl.hi] 37))
      have hZ6 := Z5.out.old (.cells #[.int .i64 fl.lo, .int .i64 fl.hi] 37)
      have hF6 := Box.new (g := X5.heap.size) #[.int .i64 fl.lo, .int .i64 fl.hi] 37 X5 rfl
      obtain ⟨X6, hW⟩ : ∃ X, X = X5.alloc (.cells #[.int .i64 fl.lo, .int .i64 fl.hi] 37) := ⟨_, rfl⟩
      rw [← hW] at hI6 hM6 hZ6 hF6 ⊢
      clear hW
      obtain ⟨gF, hG⟩ : ∃ G, G = X5.heap.size := ⟨_, rfl⟩
      rw [← hG] at hF6 ⊢
      clear hG hv
      have I6 := Lib.hid hI6
      have M6 := Lib.hid hM6
      have Z6 := Lib.hid hZ6
      have F6 := Lib.hid hF6
      clear hI6 hM6 hZ6 hF6 I5 M5 Z5
      have H2 := Lib.hid (fun W (hM : Mem (t.exact s) (some ⟨gU, 0, none⟩) ob W) => refTest_any (t.exact s) (some ⟨gU, 0, none⟩) cU ob cb W (show t.n ≤ 1000000 by omega) (show t.m ≤ 1000000 by omega) hM.u hM.s)
      have c0 := Z6.out.cell 0 (v := .slice (some ⟨gU, 0, none⟩) t.n cU) rfl
      have c1 := Z6.out.cell 1 (v := .int .i64 t.leaks) rfl
      have c2 := Z6.out.cell 2 (v := .int .i64 t.least) rfl
      have c3 := Z6.out.cell 3 (v := .slice ob t.m cb) rfl
      have c4 := Z6.out.lt
      go_wp2_with fail
      refine (H2.out _ M6.out).mono ?_
      rintro e X7 ⟨rfl, hb7⟩
      rw [HVV.out]
      have I7 := Lib.hid (I6.out.on hb7)
      have M7 := Lib.hid (M6.out.on hb7)
      have Z7 := Lib.hid (Z6.out.below hb7)
      have F7 := Lib.hid (F6.out.below hb7)
      clear hb7 I6 M6 Z6 F6 H2 c0 c1 c2 c3 c4
      have c2 := Z7.out.cell 2 (v := .int .i64 t.least) rfl
      have c4 := Z7.out.lt
      have e0 := F7.out.cell 0 (v := .int .i64 fl.lo) rfl
      have e1 := F7.out.cell 1 (v := .int .i64 fl.hi) rfl
      have e2 := F7.out.lt
      have hd1 : decide (fl.hi < fl.lo) = false := decide_eq_false (by omega)
      have hd2 : decide (fl.lo < t.least) = false := decide_eq_false (by omega)
      go_upto_region 12 with fail
      clear c2 c4 e0 e1 e2 hd1 hd2
      have e0 : ∀ W : Aft X7, W.val.cell? ⟨gF, 1, none⟩ = some (.int .i64 fl.hi) := fun W => (F7.out.below W.below).cell 1 rfl
      have e1 : ∀ W : Aft X7, W.val.cell? ⟨gA, 0, none⟩ = some (.slice (some ⟨gU, 0, none⟩) t.n cU) := fun W => (Z7.out.below W.below).cell 0 rfl
      have e2 : ∀ W : Aft X7, W.val.cell? ⟨w.heap.size + 1, 0, none⟩ = some (.int .i64 (s : Nat)) := fun W => (I7.out.hS.below W.below).cell 0 rfl
      have e3 : ∀ W : Aft X7, W.val.cell? ⟨gU, s * 2, none⟩ = some (.int .i64 (t.u s).lo) := fun W => by
        obtain ⟨b9, o9, q0, q1, q2, q3⟩ := (M7.out.on W.below).u s hs
        cases q0
        rw [exact_lo, Nat.zero_add] at q2
        exact q2
      refine wp_region_aft (by kernel_rfl) (by kernel_rfl) ?_
      repeat (go_big_quiet_step (fail))
      refine wpQuiet_nil ?_
      intro WA
      obtain ⟨wy, hwy⟩ : ∃ X, X = WA.val := ⟨_, rfl⟩
      have hby := WA.below
      rw [← hwy] at hby ⊢
      clear hwy WA
      clear e0 e1 e2 e3
      have I8 := Lib.hid (I7.out.on hby)
      have M8 := Lib.hid (M7.out.on hby)
      have Z8 := Lib.hid (Z7.out.below hby)
      have F8 := Lib.hid (F7.out.below hby)
      clear hby I7 M7 Z7 F7
      obtain ⟨X8, hW⟩ : ∃ X, X = wy := ⟨_, rfl⟩
      rw [← hW] at I8 M8 Z8 F8 ⊢
      clear hW
      by_cases hmx : 1073741824 ≤ fl.hi + (t.u s).lo
      · have hd1 : decide (1073741824 ≤ fl.hi + (t.u s).lo) = true := decide_eq_true hmx
        have I1 := I8
        go_wp2_with fail
        refine (awake_any _ I1.out.mem.T I1.out.mem.l).mono ?_
        rintro e X2 ⟨rfl, hb⟩
        have I2 := Lib.hid (I1.out.on hb)
        clear hb
        go_wp2_with fail
        go_ret
        exact ⟨rfl, I2.out.low⟩
      have hd1 : decide (1073741824 ≤ fl.hi + (t.u s).lo) = false := decide_eq_false hmx
      obtain ⟨R, hR⟩ : ∃ R : Int → Spn, R = fun L => ((t.exact s).rich (openSt (t.exact s) s (L + ((t.exact s).u s).lo))).leakR s := ⟨_, rfl⟩
      obtain ⟨E, hE⟩ : ∃ E : Int → Int, E = fun L => ((t.exact s).rich (openSt (t.exact s) s (L + ((t.exact s).u s).lo))).leakErr s := ⟨_, rfl⟩
      have HFI := Lib.hid (show ∀ (W : World) (L : Int), Mem (t.exact s) (some ⟨gU, 0, none⟩) ob W → Box gA #[.slice (some ⟨gU, 0, none⟩) t.n cU, .int .i64 t.leaks, .int .i64 t.least, .slice ob t.m cb] 25 W → Box (w.heap.size + 1) #[.int .i64 (s : Nat)] 3 W → -1000000000000 ≤ L → L ≤ 1000000000000 → Calls Tryd.prog 23 #[.int .i64 L, .pointer (some ⟨gA, 0, none⟩), .pointer (some ⟨w.heap.size + 1, 0, none⟩)] W fun e W' => e = .returned (.tuple #[.agg #[.int .i64 (R L).lo, .int .i64 (R L).hi], .int .i64 (E L)]) ∧ Below W.heap.size W W' from fun W L hM9 hX9 hS9 hL0 hL1 => by
        rw [hR, hE]
        exact fill_any (t.exact s) (some ⟨gU, 0, none⟩) cU ob cb s L gA (w.heap.size + 1) W hX9 hS9 hM9 hn10 hs (show t.m < 12 by omega) HNIL.out hL0 hL1 (by rw [exact_lo]; exact hu0) (by rw [exact_lo]; exact hu1))
      have hlaw := ends_law (t := t.exact s) hs (show t.m < 12 by omega) (exact_hi t s) HER.out.symm (by rw [← HFL.out, exact_lo]; omega)
      rw [← HFL.out] at hlaw
      have hlaw2 : (E fl.lo = 0 ∧ R fl.lo = ⟨fl.lo, fl.lo⟩) ∧ (E fl.hi = 0 ∧ R fl.hi = ⟨fl.hi, fl.hi⟩) ∧ E (fl.lo - 1) ≠ 0 ∧ E (fl.hi + 1) ≠ 0 := by
        rw [hR, hE]; exact hlaw
      clear hlaw hR hE
      obtain ⟨⟨q1, q2⟩, ⟨q3, q4⟩, q5, q6⟩ := hlaw2
      have Q1 := Lib.hid q1
      have Q2 := Lib.hid q2
      have Q3 := Lib.hid q3
      have Q4 := Lib.hid q4
      have Q5 := Lib.hid (show (E (fl.lo - 1) == 0) = false by simpa using q5)
      have Q6 := Lib.hid (show (E (fl.hi + 1) == 0) = false by simpa using q6)
      clear q1 q2 q3 q4 q5 q6 f1
      have f4 : fl.lo ≤ 1073741824 := by have := leak_facts (t := t.exact s) hs HER.out.symm; rw [← HFL.out] at this; omega
      have f5 : 1 ≤ fl.hi := by have := leak_facts (t := t.exact s) hs HER.out.symm; rw [← HFL.out] at this; omega
      have e0 := F8.out.cell 0 (v := .int .i64 fl.lo) rfl
      have e2 := F8.out.lt
      go_wp2_with fail
      refine (HFI.out _ _ M8.out Z8.out I8.out.hS (by omega) (by omega)).mono ?_
      rintro e X9a ⟨rfl, hb⟩
      rw [Q1.out, Q2.out]
      have I9a := I8.out.on hb
      have M9a := M8.out.on hb
      have Z9a := Z8.out.below hb
      have F9a := F8.out.below hb
      clear hb I8 M8 Z8 F8 e0 e2  hd1
      go_upto_region 15 with fail
      have hbn := below_alloc1 X9a (.cells #[.int .i64 fl.lo, .int .i64 fl.lo] 37)
      have hB0 := Box.new (g := X9a.heap.size) #[.int .i64 fl.lo, .int .i64 fl.lo] 37 X9a rfl
      obtain ⟨X9, hW⟩ : ∃ X, X = X9a.alloc (.cells #[.int .i64 fl.lo, .int .i64 fl.lo] 37) := ⟨_, rfl⟩
      rw [← hW] at hbn hB0 ⊢
      clear hW
      have I9 := Lib.hid (I9a.on hbn)
      have M9 := Lib.hid (M9a.on hbn)
      have Z9 := Lib.hid (Z9a.below hbn)
      have F9 := Lib.hid (F9a.below hbn)
      obtain ⟨G0, hG⟩ : ∃ G, G = X9a.heap.size := ⟨_, rfl⟩
      rw [← hG] at hB0 ⊢
      clear hG hbn I9a M9a Z9a F9a 
      have B0_9 := Lib.hid hB0
      clear hB0
      have e0 := F9.out.cell 1 (v := .int .i64 fl.hi) rfl
      have e2 := F9.out.lt
      go_wp2_with fail
      refine (HFI.out _ _ M9.out Z9.out I9.out.hS (by omega) (by omega)).mono ?_
      rintro e X10a ⟨rfl, hb⟩
      rw [Q3.out, Q4.out]
      have I10a := I9.out.on hb
      have M10a := M9.out.on hb
      have Z10a := Z9.out.below hb
      have F10a := F9.out.below hb
      have B0_10a := B0_9.out.below hb
      clear hb I9 M9 Z9 F9 e0 e2 B0_9 
      go_upto_region 16 with fail
      have hbn := below_alloc1 X10a (.cells #[.int .i64 fl.hi, .int .i64 fl.hi] 37)
      have hB1 := Box.new (g := X10a.heap.size) #[.int .i64 fl.hi, .int .i64 fl.hi] 37 X10a rfl
      obtain ⟨X10, hW⟩ : ∃ X, X = X10a.alloc (.cells #[.int .i64 fl.hi, .int .i64 fl.hi] 37) := ⟨_, rfl⟩
      rw [← hW] at hbn hB1 ⊢
      clear hW
      have I10 := Lib.hid (I10a.on hbn)
      have M10 := Lib.hid (M10a.on hbn)
      have Z10 := Lib.hid (Z10a.below hbn)
      have F10 := Lib.hid (F10a.below hbn)
      have B0_10 := Lib.hid (B0_10a.below hbn)
      obtain ⟨G1, hG⟩ : ∃ G, G = X10a.heap.size := ⟨_, rfl⟩
      rw [← hG] at hB1 ⊢
      clear hG hbn I10a M10a Z10a F10a B0_10a
      have B1_10 := Lib.hid hB1
      clear hB1
      have e0 := F10.out.cell 0 (v := .int .i64 fl.lo) rfl
      have e2 := F10.out.lt
      go_wp2_with fail
      refine (HFI.out _ _ M10.out Z10.out I10.out.hS (by omega) (by omega)).mono ?_
      rintro e X11a ⟨rfl, hb⟩
      obtain ⟨e3, he3⟩ : ∃ x, x = E (fl.lo - 1) := ⟨_, rfl⟩
      have q5 := Q5.out
      rw [← he3] at q5 ⊢
      clear he3
      generalize R (fl.lo - 1) = r3
      have I11a := I10.out.on hb
      have M11a := M10.out.on hb
      have Z11a := Z10.out.below hb
      have F11a := F10.out.below hb
      have B0_11a := B0_10.out.below hb
      have B1_11a := B1_10.out.below hb
      clear hb I10 M10 Z10 F10 e0 e2 B0_10 B1_10 
      go_upto_region 17 with fail
      have hbn := below_alloc1 X11a (.cells #[.int .i64 r3.lo, .int .i64 r3.hi] 37)
      have hB2 := Box.new (g := X11a.heap.size) #[.int .i64 r3.lo, .int .i64 r3.hi] 37 X11a rfl
      obtain ⟨X11, hW⟩ : ∃ X, X = X11a.alloc (.cells #[.int .i64 r3.lo, .int .i64 r3.hi] 37) := ⟨_, rfl⟩
      rw [← hW] at hbn hB2 ⊢
      clear hW
      have I11 := Lib.hid (I11a.on hbn)
      have M11 := Lib.hid (M11a.on hbn)
      have Z11 := Lib.hid (Z11a.below hbn)
      have F11 := Lib.hid (F11a.below hbn)
      have B0_11 := Lib.hid (B0_11a.below hbn)
      have B1_11 := Lib.hid (B1_11a.below hbn)
      obtain ⟨G2, hG⟩ : ∃ G, G = X11a.heap.size := ⟨_, rfl⟩
      rw [← hG] at hB2 ⊢
      clear hG hbn I11a M11a Z11a F11a B0_11a B1_11a
      have B2_11 := Lib.hid hB2
      clear hB2
      have e0 := F11.out.cell 1 (v := .int .i64 fl.hi) rfl
      have e2 := F11.out.lt
      go_wp2_with fail
      refine (HFI.out _ _ M11.out Z11.out I11.out.hS (by omega) (by omega)).mono ?_
      rintro e X12a ⟨rfl, hb⟩
      obtain ⟨e4, he4⟩ : ∃ x, x = E (fl.hi + 1) := ⟨_, rfl⟩
      have q6 := Q6.out
      rw [← he4] at q6 ⊢
      clear he4
      generalize R (fl.hi + 1) = r4
      have I12a := I11.out.on hb
      have M12a := M11.out.on hb
      have Z12a := Z11.out.below hb
      have F12a := F11.out.below hb
      have B0_12a := B0_11.out.below hb
      have B1_12a := B1_11.out.below hb
      have B2_12a := B2_11.out.below hb
      clear hb I11 M11 Z11 F11 e0 e2 B0_11 B1_11 B2_11 
      go_upto_region 18 with fail
      have hbn := below_alloc1 X12a (.cells #[.int .i64 r4.lo, .int .i64 r4.hi] 37)
      have hB3 := Box.new (g := X12a.heap.size) #[.int .i64 r4.lo, .int .i64 r4.hi] 37 X12a rfl
      obtain ⟨X12, hW⟩ : ∃ X, X = X12a.alloc (.cells #[.int .i64 r4.lo, .int .i64 r4.hi] 37) := ⟨_, rfl⟩
      rw [← hW] at hbn hB3 ⊢
      clear hW
      have I12 := Lib.hid (I12a.on hbn)
      have M12 := Lib.hid (M12a.on hbn)
      have Z12 := Lib.hid (Z12a.below hbn)
      have F12 := Lib.hid (F12a.below hbn)
      have B0_12 := Lib.hid (B0_12a.below hbn)
      have B1_12 := Lib.hid (B1_12a.below hbn)
      have B2_12 := Lib.hid (B2_12a.below hbn)
      obtain ⟨G3, hG⟩ : ∃ G, G = X12a.heap.size := ⟨_, rfl⟩
      rw [← hG] at hB3 ⊢
      clear hG hbn I12a M12a Z12a F12a B0_12a B1_12a B2_12a
      have B3_12 := Lib.hid hB3
      clear hB3
      have HFIN := Lib.hid I12.out.low
      have a0 : ∀ W : Aft X12, W.val.cell? ⟨gF, 0, none⟩ = some (.int .i64 fl.lo) := fun W => (F12.out.below W.below).cell 0 rfl
      have a1 : ∀ W : Aft X12, W.val.cell? ⟨gF, 1, none⟩ = some (.int .i64 fl.hi) := fun W => (F12.out.below W.below).cell 1 rfl
      have b0 : ∀ W : Aft X12, W.val.cell? ⟨G0, 0, none⟩ = some (.int .i64 fl.lo) := fun W => (B0_12.out.below W.below).cell 0 rfl
      have b1 : ∀ W : Aft X12, W.val.cell? ⟨G0, 1, none⟩ = some (.int .i64 fl.lo) := fun W => (B0_12.out.below W.below).cell 1 rfl
      have c0 : ∀ W : Aft X12, W.val.cell? ⟨G1, 0, none⟩ = some (.int .i64 fl.hi) := fun W => (B1_12.out.below W.below).cell 0 rfl
      have c1 : ∀ W : Aft X12, W.val.cell? ⟨G1, 1, none⟩ = some (.int .i64 fl.hi) := fun W => (B1_12.out.below W.below).cell 1 rfl
      have HAW := Lib.hid (fun W : Aft X12 => awake_any W.val (M12.out.on W.below).T (M12.out.on W.below).l)
      have n5 : e3 ≠ 0 := by simpa using q5
      have n6 : e4 ≠ 0 := by simpa using q6
      have m5 : decide (e3 = 0) = false := decide_eq_false n5
      have m6 : decide (e4 = 0) = false := decide_eq_false n6
      have l5 : (e3 != 0) = true := by simpa using n5
      have l6 : (e4 != 0) = true := by simpa using n6
      refine wp_region_aft (by kernel_rfl) (by kernel_rfl) ?_
      repeat (go_big_quiet_step ((first | (go_at_call 24; exact aft_call (span_any _ _ _)) | (go_at_call 11; exact aft_call (HAW.out _)))))
      refine wpQuiet_nil ?_
      intro WA
      obtain ⟨wy, hwy⟩ : ∃ X, X = WA.val := ⟨_, rfl⟩
      have hby := WA.below
      rw [← hwy] at hby ⊢
      clear hwy WA
      go_wp2_with fail
      go_ret
      exact ⟨rfl, HFIN.out.trans (hby.mono HFIN.out.size)⟩
end Go.Proofs.YtpognhnmkjpipaaDoor
