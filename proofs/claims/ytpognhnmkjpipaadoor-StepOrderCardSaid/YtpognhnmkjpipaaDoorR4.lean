/- The document's side: one and add. -/
import Derived.Test.YtpognhnmkjpipaaDoorR3
import Derived.Test.YtpognhnmkjpipaaDoorW11
namespace Go.Proofs.YtpognhnmkjpipaaDoor
open Go.RowKit
/-- what a street's leak can be by the first steps, if it alone leaks -/
def oneK (t : Tst) (x : Nat) : Nat → Spn
  | 0 => ⟨t.least, 1073741824⟩
  | k + 1 => if hasB (t.s k).shut.toNat x then oneK t x k else cutS (oneK t x k) (t.rest k).flow
def oneP (t : Tst) (x i : Nat) : Bool := !hasB (t.s i).shut.toNat x || in0 (t.rest i).flow
def oneR (t : Tst) (x : Nat) : Option Spn := if allB t.m (oneP t x) && decide ((oneK t x t.m).lo ≤ (oneK t x t.m).hi) then some (oneK t x t.m) else none
/-- a span, or that there is none -/
def OPost (o : Option Spn) (w : World) (e : Ending) (w' : World) : Prop := Below w.heap.size w w' ∧ ∃ sp : Spn, e = .returned (.tuple #[sp.val, .bool o.isSome]) ∧ ∀ s, o = some s → sp = s
theorem oneR_bad {t : Tst} {x k : Nat} (hk : k < t.m) (h : oneP t x k = false) : oneR t x = none := by unfold oneR; rw [allB_false hk h]; rfl
def addS (a : Spn) (is : Bool) (b : Spn) : Spn := if is then ⟨min a.lo b.lo, max a.hi b.hi⟩ else b
set_option maxHeartbeats 400000 in
theorem add2_any (a b : Spn) (is : Bool) (w : World) :
    Calls Tryd.prog 47 #[a.val, .bool is, b.val] w fun e w' => e = .returned (addS a is b).val ∧ Below w.heap.size w w' := by
  go_enter Tryd.func47, Tryd.ntmps47
  cases is
  · go_wp2
    exact bodyPost_ret (v := b.val) (by simp [results, Tryd.results47, go_sem]) rfl ⟨rfl, (by repeat' (first | exact Below.refl _ _ | assumption | apply below_drewN | apply Below.drew | (refine Below.alloc ?_ ?_ _) | (refine Below.setCell ?_ ?_ _) | (simp; done) | (simp; omega) | omega))⟩
  · go_wp2
    all_goals exact bodyPost_ret (v := .agg #[.int .i64 (min a.lo b.lo), .int .i64 (max a.hi b.hi)]) (by simp [results, Tryd.results47, go_sem] <;> omega) rfl ⟨rfl, (by repeat' (first | exact Below.refl _ _ | assumption | apply below_drewN | apply Below.drew | (refine Below.alloc ?_ ?_ _) | (refine Below.setCell ?_ ?_ _) | (simp; done) | (simp; omega) | omega))⟩
/-- the boxes of one -/
structure OI (t : Tst) (x : Nat) (oa : Option Addr) (ca : Nat) (ob : Option Addr) (cb : Nat) (w : World) (k : Nat) (W : World) : Prop where
  low : Below w.heap.size w W
  hT : TB t oa ca ob cb w.heap.size W
  hR : Box (w.heap.size + 1) #[.int .i64 0, .int .i64 0] 37 W
  hO : Box (w.heap.size + 1 + 1) #[.int .i64 (oneK t x k).lo, .int .i64 (oneK t x k).hi] 37 W
  hP : ∀ i, i < k → oneP t x i = true
set_option maxRecDepth 100000 in
set_option maxHeartbeats 4000000 in
theorem one_any (t : Tst) (hk : t.Ok) (oa : Option Addr) (ca : Nat) (ob : Option Addr) (cb : Nat) (x : Nat) (hx : x < 10) (w : World) (hU : SpnsAt w oa t.n t.u) (hS : StpsAt w ob t.m t.s) :
    Calls Tryd.prog 46 #[t.val oa ca ob cb, .int .i64 (x : Nat)] w (OPost (oneR t x) w) := by
  have HU := Lib.hid hU
  have HS := Lib.hid hS
  have HK := Lib.hid hk
  have hm12 := hk.m1
  clear hU hS hk
  go_enter Tryd.func46, Tryd.ntmps46
  go_wp2_with fail
  have hI0 : OI t x oa ca ob cb w 0 (((w.alloc (.cells #[.slice oa t.n ca, .int .i64 t.leaks, .int .i64 t.least, .slice ob t.m cb] 25)).alloc (.cells #[.int .i64 0, .int .i64 0] 37)).alloc (.cells #[.int .i64 t.least, .int .i64 1073741824] 37)) := ⟨(by repeat' (first | exact Below.refl _ _ | assumption | apply below_drewN | apply Below.drew | (refine Below.alloc ?_ ?_ _) | (refine Below.setCell ?_ ?_ _) | (simp; done) | (simp; omega) | omega)), ((Box.new _ 25 w rfl).old _).old _, (Box.new _ 37 _ (by simp)).old _, Box.new _ 37 _ (by simp), fun i hi => by omega⟩
  obtain ⟨W, hW⟩ : ∃ X, X = (((w.alloc (.cells #[.slice oa t.n ca, .int .i64 t.leaks, .int .i64 t.least, .slice ob t.m cb] 25)).alloc (.cells #[.int .i64 0, .int .i64 0] 37)).alloc (.cells #[.int .i64 t.least, .int .i64 1073741824] 37)) := ⟨_, rfl⟩
  rw [← hW] at hI0 ⊢
  clear hW
  go_loopw [7] (fun v7 wr => ∃ k : Nat, k ≤ t.m ∧ v7 = .int .i64 k ∧ OI t x oa ca ob cb w k wr) (fun i _ => t.m - (intOf i).toNat)
  case atStart => exact ⟨0, Nat.zero_le _, rfl, hI0⟩
  case round =>
    obtain ⟨k, hk, rfl, hI⟩ := hrel
    have HI := Lib.hid hI
    have ZT := hI.hT
    have hbw := hI.low
    clear hI hI0
    obtain ⟨c0, c1, c2, c3, c4⟩ := TB.cells ZT
    by_cases hlt : k < t.m
    · have hd : decide (k < t.m) = true := by simpa using hlt
      have HLC := Lib.hid (rest_call HK.out (HU.out.mono hbw) ca ob cb hlt)
      have hs0 := HK.out.s0 k hlt
      have hs1 := HK.out.s1 k hlt
      have h10 := pow_ten HK.out.n2
      obtain ⟨b, off, rfl, hlt0, d0, d1, d2⟩ := (HS.out.mono hbw) k hlt
      obtain ⟨y, hy⟩ : ∃ y : Nat, y = (t.s k).shut.toNat := ⟨_, rfl⟩
      have HN : y < 1024 := by omega
      have HSY := Lib.hid (show (t.s k).shut = (y : Int) by omega)
      have HY := Lib.hid hy
      clear hy hs0 hs1 h10
      go_upto_region 5 with fail
      clear c0 c1 c2 c3 c4 hd
      have f0 := fun {X : World} (h : Below wr.heap.size wr X) => ZT.below h
      have hCC : ∀ A B : World, Below wr.heap.size wr A → Below A.heap.size A B → Below wr.heap.size wr B := fun A B h1 h2 => h1.trans (h2.mono h1.size)
      have hC0 : Below wr.heap.size wr wr.drew := (Below.refl _ _).drew
      refine wp_region_garb (Below wr.heap.size wr) (by kernel_rfl) ?_
      (refine wpAnyG_take (i := 0) hCC hC0 rfl (by kernel_rfl) (by kernel_rfl) (by kernel_rfl) (fun _ _ _ _ h => h) (by rfl) ?_; apply Exists.intro; refine ⟨fun w1 h1 K hK => ?_, ?_⟩; · (have f1 := fun W : Aft w1 => TB.cells (ZT.below (hCC _ _ h1 W.below)); have g0 : ∀ W : Aft w1, W.val.cell? ⟨w.heap.size, 0, none⟩ = some (.slice oa t.n ca) := fun W => (f1 W).1; have g1 : ∀ W : Aft w1, W.val.cell? ⟨w.heap.size, 1, none⟩ = some (.int .i64 t.leaks) := fun W => (f1 W).2.1; have g2 : ∀ W : Aft w1, W.val.cell? ⟨w.heap.size, 2, none⟩ = some (.int .i64 t.least) := fun W => (f1 W).2.2.1; have g3 : ∀ W : Aft w1, W.val.cell? ⟨w.heap.size, 3, none⟩ = some (.slice (some ⟨b, off, none⟩) t.m cb) := fun W => (f1 W).2.2.2.1; clear f1; go_big_quiet_op; first | exact hK | fail))
      (refine wpAnyG_take (i := 1) hCC hC0 rfl (by kernel_rfl) (by kernel_rfl) (by kernel_rfl) (fun _ _ _ _ h => h) (by rfl) ?_; apply Exists.intro; refine ⟨fun w1 h1 K hK => ?_, ?_⟩; · ( go_big_quiet_op; first | exact hK | fail))
      (refine wpAnyG_take (i := 2) hCC hC0 rfl (by kernel_rfl) (by kernel_rfl) (by kernel_rfl) (fun _ _ _ _ h => h) (by rfl) ?_; apply Exists.intro; refine ⟨fun w1 h1 K hK => ?_, ?_⟩; · (have g3 : ∀ W : Aft w1, W.val.cell? ⟨w.heap.size, 3, none⟩ = some (.slice (some ⟨b, off, none⟩) t.m cb) := fun W => (TB.cells (ZT.below (hCC _ _ h1 W.below))).2.2.2.1; go_big_quiet_op; first | exact hK | fail))
      (refine wpAnyG_take (i := 3) hCC hC0 rfl (by kernel_rfl) (by kernel_rfl) (by kernel_rfl) (fun _ _ _ _ h => h) (by rfl) ?_; apply Exists.intro; refine ⟨fun w1 h1 K hK => ?_, ?_⟩; · ( go_big_quiet_op; first | exact hK | fail))
      (refine wpAnyG_take (i := 4) hCC hC0 rfl (by kernel_rfl) (by kernel_rfl) (by kernel_rfl) (fun _ _ _ _ h => h) (by rfl) ?_; apply Exists.intro; refine ⟨fun w1 h1 K hK => ?_, ?_⟩; · ( go_big_quiet_op; first | exact hK | fail))
      (refine wpAnyG_take (i := 5) hCC hC0 rfl (by kernel_rfl) (by kernel_rfl) (by kernel_rfl) (fun _ _ _ _ h => h) (by rfl) ?_; apply Exists.intro; refine ⟨fun w1 h1 K hK => ?_, ?_⟩; · (have g0 : ∀ W : Aft w1, W.val.cell? ⟨b, off + k * 3, none⟩ = some (.int .i64 (t.s k).shut) := fun W => ((hCC _ _ h1 W.below).cell (p := ⟨b, off + k * 3, none⟩) hlt0).trans d0; have g1 : ∀ W : Aft w1, W.val.cell? ⟨b, off + k * 3 + 1, none⟩ = some (.int .i64 (t.s k).flow.lo) := fun W => ((hCC _ _ h1 W.below).cell (p := ⟨b, off + k * 3 + 1, none⟩) hlt0).trans d1; have g2 : ∀ W : Aft w1, W.val.cell? ⟨b, off + k * 3 + 1 + 1, none⟩ = some (.int .i64 (t.s k).flow.hi) := fun W => ((hCC _ _ h1 W.below).cell (p := ⟨b, off + k * 3 + 1 + 1, none⟩) hlt0).trans d2; go_big_quiet_op; first | exact hK | fail))
      (refine wpAnyG_take (i := 6) hCC hC0 rfl (by kernel_rfl) (by kernel_rfl) (by kernel_rfl) (fun _ _ _ _ h => h) (by rfl) ?_; apply Exists.intro; refine ⟨fun w1 h1 K hK => ?_, ?_⟩; · ( go_big_quiet_op; first | exact hK | exact ⟨_, fun W => aft_call (HLC.out _ (hCC _ _ h1 W.below)), hK⟩))
      (refine wpAnyG_one (i := 7) (by kernel_rfl) rfl (by rfl) (fun wa hwa K hK => ?_))
      go_simp
      refine hK _ _ ((hCC _ _ hC0 hwa).alloc (by have := hC0.size; have := hwa.size; omega) _) ?_
      clear hK K
      have s9 := Box.new (g := wa.heap.size) #[.int .i64 0, .int .i64 0] 37 wa rfl
      have hC1 := (hCC _ _ hC0 hwa).alloc (by have := hC0.size; have := hwa.size; omega) (.cells #[.int .i64 0, .int .i64 0] 37)
      have hg9 : wr.heap.size ≤ wa.heap.size := Nat.le_trans hC0.size hwa.size
      clear hwa
      obtain ⟨g9, hG⟩ : ∃ G, G = wa.heap.size := ⟨_, rfl⟩
      obtain ⟨wA, hWA⟩ : ∃ X, X = wa.alloc (.cells #[.int .i64 0, .int .i64 0] 37) := ⟨_, rfl⟩
      rw [← hG] at s9 hg9 ⊢
      rw [← hWA] at s9 hC1 ⊢
      clear hG hWA
      (refine wpAnyG_one (i := 8) (by kernel_rfl) rfl (by rfl) (fun wb hwb K hK => ?_))
      refine wp_store_box (s9.below hwb) rfl rfl rfl rfl (by kernel_rfl) (by simp [Value.oneCell']) (fun wc s8 ho => ?_); dsimp only [Act.put]
      refine hK _ _ ((hCC _ _ hC1 hwb).trans (ho.below hg9)) ?_
      clear hK K
      have hC2 := (hCC _ _ hC1 hwb).trans (ho.below hg9)
      clear s9 hC1 ho hwb
      refine wpAnyG_done (by kernel_rfl) (fun wz hwz => ?_) _
      have h9 := s8.below hwz
      have hz9 := hCC _ _ hC2 hwz
      clear s8 hC2 hwz hC0 hCC f0
      have HZ9 := Lib.hid hz9
      have H9 := Lib.hid h9
      have z0 := h9.cell 0 (v := .int .i64 (t.rest k).flow.lo) rfl
      have z1 := h9.cell 1 (v := .int .i64 (t.rest k).flow.hi) rfl
      have z2 := h9.lt
      have hbz := hbw.trans (hz9.mono hbw.size)
      obtain ⟨c0, c1, c2, c3, c4⟩ := TB.cells (ZT.below hz9)
      have ZO := Lib.hid (HI.out.hO.below hz9)
      have ZR := Lib.hid (HI.out.hR.below hz9)
      have hlt1 : b < wz.heap.size := Nat.lt_of_lt_of_le hlt0 hz9.size
      have s0 : wz.cell? ⟨b, off + k * 3, none⟩ = some (.int .i64 (y : Nat)) := by rw [← HSY.out]; exact (hz9.cell (p := ⟨b, off + k * 3, none⟩) hlt0).trans d0
      have o0 := ZO.out.cell 0 (v := .int .i64 (oneK t x k).lo) rfl
      have o1 := ZO.out.cell 1 (v := .int .i64 (oneK t x k).hi) rfl
      have o2 := ZO.out.lt
      clear d0 d1 d2 ZT h9 hz9 hlt0
      go_wp2_with fail
      refine (has_any y x _ (by omega) (by omega)).mono ?_
      rintro e w9 ⟨rfl, rfl⟩
      cases hh : hasB y x
      · have EP := Lib.hid (show oneP t x k = true by unfold oneP; rw [← HY.out, hh]; rfl)
        have EK := Lib.hid (show oneK t x (k + 1) = cutS (oneK t x k) (t.rest k).flow by show (if _ then _ else _) = _; rw [← HY.out, hh]; rfl)
        clear hh
        go_wp2_with fail
        refine (refCut_any (oneK t x k) (t.rest k).flow _).mono ?_
        rintro e w8 ⟨rfl, hb8⟩
        have ZO8 := ZO.out.below hb8
        have p0 := ZO8.cell 0 (v := .int .i64 (oneK t x k).lo) rfl
        have p1 := ZO8.cell 1 (v := .int .i64 (oneK t x k).hi) rfl
        have p2 := ZO8.lt
        have p3 := ZO8.frozen 0
        have p4 := ZO8.frozen 1
        have HB8 := Lib.hid hb8
        have HO8 := Lib.hid ZO8
        clear hb8 ZO8 c0 c1 c2 c3 c4 o0 o1 o2 z0 z1 z2 s0
        obtain ⟨q, hq⟩ : ∃ q, q = cutS (oneK t x k) (t.rest k).flow := ⟨_, rfl⟩
        rw [← hq] at EK ⊢
        clear hq
        go_wp2_with fail
        have ho := ((Only.refl (w.heap.size + 1 + 1) w8).setCell 0 (.int .i64 q.lo)).setCell 1 (.int .i64 q.hi)
        have HL9 := Lib.hid (show OI t x oa ca (some ⟨b, off, none⟩) cb w (k + 1) ((w8.setCell ⟨w.heap.size + 1 + 1, 0, none⟩ (.int .i64 q.lo)).setCell ⟨w.heap.size + 1 + 1, 1, none⟩ (.int .i64 q.hi)) from
          ⟨(hbz.trans (HB8.out.mono hbz.size)).trans (ho.below (by omega)), ho.box ((HI.out.hT.below HZ9.out).below HB8.out) (by omega), ho.box (ZR.out.below HB8.out) (by omega), by rw [EK.out]; exact HO8.out.set2 _ _, fun i hi => by
            by_cases h : i = k
            · subst h; exact EP.out
            · exact HI.out.hP i (by omega)⟩)
        clear ho
        go_roundw
        case rel => exact ⟨k + 1, by omega, by go_num, HL9.out⟩
        case measure => simp [intOf]; omega
      · have EK := Lib.hid (show oneK t x (k + 1) = oneK t x k by show (if _ then _ else _) = _; rw [← HY.out, hh]; rfl)
        cases hin : in0 (t.rest k).flow
        · have HII := Lib.hid (show withinB 0 (t.rest k).flow.lo (t.rest k).flow.hi = false from hin)
          have E := Lib.hid (show oneR t x = none from oneR_bad hlt (by unfold oneP; rw [← HY.out, hh, hin]; rfl))
          have r0 := ZR.out.cell 0 (v := .int .i64 0) rfl
          have r1 := ZR.out.cell 1 (v := .int .i64 0) rfl
          have r2 := ZR.out.lt
          have r3 := ZR.out.frozen 0
          have r4 := ZR.out.frozen 1
          clear hh hin
          go_wp2_with fail
          refine (in_any _ _ _ _).mono ?_
          rintro e w9 ⟨rfl, rfl⟩
          rw [HII.out]
          go_wp2_with fail
          have PQ := put2 r0 r1 (.int .i64 (oneK t x k).lo) (.int .i64 (oneK t x k).hi)
          refine bodyPost_ret (v := .tuple #[(oneK t x k).val, .bool false]) (by simp [results, Tryd.results46, go_sem, PQ.1, PQ.2]) rfl ⟨(hbz.setCell (by dsimp only; omega) _).setCell (by dsimp only; omega) _, oneK t x k, by rw [E.out]; rfl, fun s h => by rw [E.out] at h; cases h⟩
        · have HII := Lib.hid (show withinB 0 (t.rest k).flow.lo (t.rest k).flow.hi = true from hin)
          have EP := Lib.hid (show oneP t x k = true by unfold oneP; rw [hin]; simp)
          clear hh hin
          go_wp2_with fail
          refine (in_any _ _ _ _).mono ?_
          rintro e w9 ⟨rfl, rfl⟩
          rw [HII.out]
          go_wp2_with fail
          go_roundw
          case rel => exact ⟨k + 1, by omega, by go_num, hbz, HI.out.hT.below HZ9.out, ZR.out, by rw [EK.out]; exact ZO.out, fun i hi => by
            by_cases h : i = k
            · subst h; exact EP.out
            · exact HI.out.hP i (by omega)⟩
          case measure => simp [intOf]; omega
    · obtain rfl : k = t.m := by omega
      have hd : decide (t.m < t.m) = false := by simp
      have EA := Lib.hid (show allB t.m (oneP t x) = true from allB_iff.2 HI.out.hP)
      go_upto_region 10 with fail
      obtain ⟨q, hq⟩ : ∃ q, q = oneK t x t.m := ⟨_, rfl⟩
      have HQ := Lib.hid hq
      have ZO := HI.out.hO
      rw [← hq] at ZO
      clear hq c0 c1 c2 c3 c4 hd ZT
      have ZR := HI.out.hR
      have nR : w.heap.size + 1 + 1 ≠ w.heap.size + 1 := by omega
      have hCC : ∀ A B : World, Same (fun b => b < wr.heap.size ∧ b ≠ w.heap.size + 1) wr A → Below A.heap.size A B → Same (fun b => b < wr.heap.size ∧ b ≠ w.heap.size + 1) wr B := fun A B h1 h2 => h1.trans (Same.of_below h2 fun _ hk _ => hk)
      have hC0 : Same (fun b => b < wr.heap.size ∧ b ≠ w.heap.size + 1) wr wr.drew := (Same.refl _ _).drew
      refine wp_region_garb (Same (fun b => b < wr.heap.size ∧ b ≠ w.heap.size + 1) wr) (by kernel_rfl) ?_
      (refine wpAnyG_take (i := 0) hCC hC0 rfl (by kernel_rfl) (by kernel_rfl) (by kernel_rfl) (fun _ _ _ _ h => h) (by rfl) ?_; apply Exists.intro; refine ⟨fun w1 h1 K hK => ?_, ?_⟩; · (have f := fun W : Aft w1 => ZO.same (hCC _ _ h1 W.below) ⟨ZO.lt, nR⟩; have f0 : ∀ W : Aft w1, W.val.cell? ⟨w.heap.size + 1 + 1, 0, none⟩ = some (.int .i64 q.lo) := fun W => (f W).cell 0 rfl; have f1 : ∀ W : Aft w1, W.val.cell? ⟨w.heap.size + 1 + 1, 1, none⟩ = some (.int .i64 q.hi) := fun W => (f W).cell 1 rfl; go_big_quiet_op; first | exact hK | fail))
      (refine wpAnyG_take (i := 1) hCC hC0 rfl (by kernel_rfl) (by kernel_rfl) (by kernel_rfl) (fun _ _ _ _ h => h) (by rfl) ?_; apply Exists.intro; refine ⟨fun w1 h1 K hK => ?_, ?_⟩; · ( go_big_quiet_op; first | exact hK | fail))
      (refine wpAnyG_take (i := 2) hCC hC0 rfl (by kernel_rfl) (by kernel_rfl) (by kernel_rfl) (fun _ _ _ _ h => h) (by rfl) ?_; apply Exists.intro; refine ⟨fun w1 h1 K hK => ?_, ?_⟩; · (have f0 : ∀ W : Aft w1, W.val.cell? ⟨w.heap.size + 1 + 1, 0, none⟩ = some (.int .i64 q.lo) := fun W => (ZO.same (hCC _ _ h1 W.below) ⟨ZO.lt, nR⟩).cell 0 rfl; go_big_quiet_op; first | exact hK | fail))
      (refine wpAnyG_take (i := 3) hCC hC0 rfl (by kernel_rfl) (by kernel_rfl) (by kernel_rfl) (fun _ _ _ _ h => h) (by rfl) ?_; apply Exists.intro; refine ⟨fun w1 h1 K hK => ?_, ?_⟩; · ( go_big_quiet_op; first | exact hK | fail))
      (refine wpAnyG_take (i := 4) hCC hC0 rfl (by kernel_rfl) (by kernel_rfl) (by kernel_rfl) (fun _ _ _ _ h => h) (by rfl) ?_; apply Exists.intro; refine ⟨fun w1 h1 K hK => ?_, ?_⟩; · (have f0 : ∀ W : Aft w1, W.val.cell? ⟨w.heap.size + 1 + 1, 1, none⟩ = some (.int .i64 q.hi) := fun W => (ZO.same (hCC _ _ h1 W.below) ⟨ZO.lt, nR⟩).cell 1 rfl; go_big_quiet_op; first | exact hK | fail))
      (refine wpAnyG_take (i := 5) hCC hC0 rfl (by kernel_rfl) (by kernel_rfl) (by kernel_rfl) (fun _ _ _ _ h => h) (by rfl) ?_; apply Exists.intro; refine ⟨fun w1 h1 K hK => ?_, ?_⟩; · ( go_big_quiet_op; first | exact hK | fail))
      (refine wpAnyG_one (i := 6) (by kernel_rfl) rfl (by rfl) (fun wa hwa K hK => ?_))
      refine wp_store_box (ZR.drew.below hwa) rfl rfl rfl rfl (by kernel_rfl) (by simp [Value.oneCell']) (fun ws zs ho => ?_); dsimp only [Act.put]
      have hS9 : Same (fun b => b < wr.heap.size ∧ b ≠ w.heap.size + 1) wr ws := (hCC _ _ hC0 hwa).trans ⟨ho.os, ho.tape, ho.output, Nat.le_of_eq ho.size.symm, fun b _ hp => ho.block b hp.2⟩
      refine hK _ _ hS9 ?_
      clear hK K
      (refine wpAnyG_one (i := 7) (by kernel_rfl) rfl (by rfl) (fun wb hwb K hK => ?_))
      go_simp
      refine hK _ _ (hCC _ _ hS9 hwb) ?_
      clear hK K
      refine wpAnyG_done (by kernel_rfl) (fun wz hwz => ?_) _
      have zv := (zs.below hwb).below hwz
      have hbz : Below w.heap.size w wz := by
        have h1 := hbw.trans ((below_drewN (Below.refl wr.heap.size wr) 1).mono hbw.size)
        have hsz := hbw.size
        exact (((hbw.drew).trans (hwa.mono (by simpa using hsz))).trans (ho.below (by omega))).trans ((hwb.trans (hwz.mono hwb.size)).mono (by rw [ho.size]; have := hwa.size; simp at this; omega))
      have v0 := zv.cell 0 (v := .int .i64 q.lo) rfl
      have v1 := zv.cell 1 (v := .int .i64 q.hi) rfl
      have EO := Lib.hid (show oneR t x = if decide (q.lo ≤ q.hi) then some q else none by unfold oneR; rw [EA.out, HQ.out]; rfl)
      clear hCC hC0 hwa hwb hwz hS9 ho zs ZO ZR zv
      cases hle : decide (q.lo ≤ q.hi)
      · have E := Lib.hid (show oneR t x = none by rw [EO.out, hle]; rfl)
        clear hle
        go_wp2_with fail
        exact bodyPost_ret (v := .tuple #[q.val, .bool false]) (by simp [results, Tryd.results46, go_sem, v0, v1]) rfl ⟨hbz, q, by rw [E.out]; rfl, fun s h => by rw [E.out] at h; cases h⟩
      · have E := Lib.hid (show oneR t x = some q by rw [EO.out, hle]; rfl)
        clear hle
        go_wp2_with fail
        exact bodyPost_ret (v := .tuple #[q.val, .bool true]) (by simp [results, Tryd.results46, go_sem, v0, v1]) rfl ⟨hbz, q, by rw [E.out]; rfl, fun s h => by rw [E.out] at h; cases h; rfl⟩
end Go.Proofs.YtpognhnmkjpipaaDoor
