/- The document's side: two. -/
import Derived.Test.YtpognhnmkjpipaaDoorR4
namespace Go.Proofs.YtpognhnmkjpipaaDoor
open Go.RowKit
/-- one step more, for two streets -/
def stepT (p : Pr) (y x1 x2 : Nat) (r : Spn) : Pr :=
  if !hasB y x1 && !hasB y x2 then { p with c := cutS p.c r } else if !hasB y x1 then { p with a := cutS p.a r } else if !hasB y x2 then { p with b := cutS p.b r } else p
/-- the leaks of two streets by the first steps -/
def twoK (t : Tst) (x1 x2 : Nat) : Nat → Pr
  | 0 => ⟨⟨t.least, 1073741824⟩, ⟨t.least, 1073741824⟩, ⟨2 * t.least, 2147483648⟩⟩
  | k + 1 => stepT (twoK t x1 x2 k) (t.s k).shut.toNat x1 x2 (t.rest k).flow
def twoP (t : Tst) (x1 x2 i : Nat) : Bool := !hasB (t.s i).shut.toNat x1 || !hasB (t.s i).shut.toNat x2 || in0 (t.rest i).flow
def endT (p : Pr) : Spn := cutS p.a ⟨p.c.lo - p.b.hi, p.c.hi - p.b.lo⟩
def twoB (p : Pr) : Bool := !decide (p.b.hi < p.b.lo) && !decide (p.c.hi < p.c.lo) && decide ((endT p).lo ≤ (endT p).hi)
def twoR (t : Tst) (x1 x2 : Nat) : Option Spn := if allB t.m (twoP t x1 x2) && twoB (twoK t x1 x2 t.m) then some (endT (twoK t x1 x2 t.m)) else none
theorem twoR_bad {t : Tst} {x1 x2 k : Nat} (hk : k < t.m) (h : twoP t x1 x2 k = false) : twoR t x1 x2 = none := by unfold twoR; rw [allB_false hk h]; rfl
theorem twoR_eq {t : Tst} {x1 x2 : Nat} (h : allB t.m (twoP t x1 x2) = true) : twoR t x1 x2 = if twoB (twoK t x1 x2 t.m) then some (endT (twoK t x1 x2 t.m)) else none := by unfold twoR; rw [h]; rfl
theorem stepT_small {p : Pr} {y x1 x2 : Nat} {r : Spn} (hp : p.small) (hr : r.small) : (stepT p y x1 x2 r).small := by
  obtain ⟨h1, h2, h3⟩ := hp
  unfold stepT
  split
  · exact ⟨h1, h2, cutS_small h3 hr⟩
  · split
    · exact ⟨cutS_small h1 hr, h2, h3⟩
    · split
      · exact ⟨h1, cutS_small h2 hr, h3⟩
      · exact ⟨h1, h2, h3⟩
theorem twoK_small {t : Tst} (hk : t.Ok) {x1 x2 : Nat} : ∀ {k : Nat}, k ≤ t.m → (twoK t x1 x2 k).small
  | 0, _ => by
    have h0 := hk.e0
    have h1 := hk.e1
    unfold Pr.small Spn.small twoK
    dsimp only
    omega
  | k + 1, h => stepT_small (twoK_small hk (by omega)) (rest_small hk (by omega))
/-- the boxes of two -/
structure TI (t : Tst) (x1 x2 ga gb gc : Nat) (oa : Option Addr) (ca : Nat) (ob : Option Addr) (cb : Nat) (w : World) (k : Nat) (W : World) : Prop where
  low : Below w.heap.size w W
  hT : TB t oa ca ob cb w.heap.size W
  hR : Box (w.heap.size + 1) #[.int .i64 0, .int .i64 0] 37 W
  hA : Box ga #[.int .i64 (twoK t x1 x2 k).a.lo, .int .i64 (twoK t x1 x2 k).a.hi] 37 W
  hB : Box gb #[.int .i64 (twoK t x1 x2 k).b.lo, .int .i64 (twoK t x1 x2 k).b.hi] 37 W
  hC : Box gc #[.int .i64 (twoK t x1 x2 k).c.lo, .int .i64 (twoK t x1 x2 k).c.hi] 37 W
  hP : ∀ i, i < k → twoP t x1 x2 i = true
set_option maxRecDepth 100000 in
set_option maxHeartbeats 8000000 in
theorem two_any (t : Tst) (hk : t.Ok) (oa : Option Addr) (ca : Nat) (ob : Option Addr) (cb : Nat) (x1 x2 : Nat) (hx1 : x1 < 10) (hx2 : x2 < 10) (w : World) (hU : SpnsAt w oa t.n t.u) (hS : StpsAt w ob t.m t.s) :
    Calls Tryd.prog 48 #[t.val oa ca ob cb, .int .i64 (x1 : Nat), .int .i64 (x2 : Nat)] w (OPost (twoR t x1 x2) w) := by
  have HU := Lib.hid hU
  have HS := Lib.hid hS
  have HK := Lib.hid hk
  have hm12 := hk.m1
  have he0 := hk.e0
  have he1 := hk.e1
  clear hU hS hk
  go_enter Tryd.func48, Tryd.ntmps48
  go_upto_region 1 with fail
  have hb0 : Below w.heap.size w ((w.alloc (.cells #[.slice oa t.n ca, .int .i64 t.leaks, .int .i64 t.least, .slice ob t.m cb] 25)).alloc (.cells #[.int .i64 0, .int .i64 0] 37)) := (by repeat' (first | exact Below.refl _ _ | assumption | apply below_drewN | apply Below.drew | (refine Below.alloc ?_ ?_ _) | (refine Below.setCell ?_ ?_ _) | (simp; done) | (simp; omega) | omega))
  have hT0 : TB t oa ca ob cb w.heap.size ((w.alloc (.cells #[.slice oa t.n ca, .int .i64 t.leaks, .int .i64 t.least, .slice ob t.m cb] 25)).alloc (.cells #[.int .i64 0, .int .i64 0] 37)) := (Box.new _ 25 w rfl).old _
  have hR0 : Box (w.heap.size + 1) #[.int .i64 0, .int .i64 0] 37 ((w.alloc (.cells #[.slice oa t.n ca, .int .i64 t.leaks, .int .i64 t.least, .slice ob t.m cb] 25)).alloc (.cells #[.int .i64 0, .int .i64 0] 37)) := Box.new _ 37 _ (by simp)
  have hs0 : ((w.alloc (.cells #[.slice oa t.n ca, .int .i64 t.leaks, .int .i64 t.least, .slice ob t.m cb] 25)).alloc (.cells #[.int .i64 0, .int .i64 0] 37)).heap.size = w.heap.size + 2 := by simp
  obtain ⟨W0, hW0⟩ : ∃ X, X = ((w.alloc (.cells #[.slice oa t.n ca, .int .i64 t.leaks, .int .i64 t.least, .slice ob t.m cb] 25)).alloc (.cells #[.int .i64 0, .int .i64 0] 37)) := ⟨_, rfl⟩
  rw [← hW0] at hb0 hT0 hR0 hs0 ⊢
  clear hW0
  have HS0 := Lib.hid hs0
  clear hs0
  go_cut [8, 9] from 15 to 20 (fun s8 s9 wx => ∃ ga gb, s8 = .pointer (some ⟨ga, 0, none⟩) ∧ s9 = .pointer (some ⟨gb, 0, none⟩) ∧ ga ≠ gb ∧ W0.heap.size ≤ ga ∧ W0.heap.size ≤ gb ∧ Below W0.heap.size W0 wx ∧ Box ga #[.int .i64 t.least, .int .i64 1073741824] 37 wx ∧ Box gb #[.int .i64 t.least, .int .i64 1073741824] 37 wx)
  case first =>
    have hCC : ∀ A B : World, Below W0.heap.size W0 A → Below A.heap.size A B → Below W0.heap.size W0 B := fun A B h1 h2 => h1.trans (h2.mono h1.size)
    have hC0 : Below W0.heap.size W0 W0.drew := (Below.refl _ _).drew
    refine wp_region_garb (Below W0.heap.size W0) (by kernel_rfl) ?_
    (refine wpAnyG_take (i := 0) hCC hC0 rfl (by kernel_rfl) (by kernel_rfl) (by kernel_rfl) (fun _ _ _ _ h => h) (by rfl) ?_; apply Exists.intro; refine ⟨fun w1 h1 K hK => ?_, ?_⟩; · ( go_big_quiet_op; first | exact hK | fail))
    (refine wpAnyG_take (i := 1) hCC hC0 rfl (by kernel_rfl) (by kernel_rfl) (by kernel_rfl) (fun _ _ _ _ h => h) (by rfl) ?_; apply Exists.intro; refine ⟨fun w1 h1 K hK => ?_, ?_⟩; · (have g2 : ∀ W : Aft w1, W.val.cell? ⟨w.heap.size, 2, none⟩ = some (.int .i64 t.least) := fun W => (TB.cells (hT0.below (hCC _ _ h1 W.below))).2.2.1; go_big_quiet_op; first | exact hK | fail))
    (refine wpAnyG_take (i := 2) hCC hC0 rfl (by kernel_rfl) (by kernel_rfl) (by kernel_rfl) (fun _ _ _ _ h => h) (by rfl) ?_; apply Exists.intro; refine ⟨fun w1 h1 K hK => ?_, ?_⟩; · ( go_big_quiet_op; first | exact hK | fail))
    (refine wpAnyG_take (i := 3) hCC hC0 rfl (by kernel_rfl) (by kernel_rfl) (by kernel_rfl) (fun _ _ _ _ h => h) (by rfl) ?_; apply Exists.intro; refine ⟨fun w1 h1 K hK => ?_, ?_⟩; · ( go_big_quiet_op; first | exact hK | fail))
    (refine wpAnyG_take (i := 4) hCC hC0 rfl (by kernel_rfl) (by kernel_rfl) (by kernel_rfl) (fun _ _ _ _ h => h) (by rfl) ?_; apply Exists.intro; refine ⟨fun w1 h1 K hK => ?_, ?_⟩; · (have g2 : ∀ W : Aft w1, W.val.cell? ⟨w.heap.size, 2, none⟩ = some (.int .i64 t.least) := fun W => (TB.cells (hT0.below (hCC _ _ h1 W.below))).2.2.1; go_big_quiet_op; first | exact hK | fail))
    (refine wpAnyG_take (i := 5) hCC hC0 rfl (by kernel_rfl) (by kernel_rfl) (by kernel_rfl) (fun _ _ _ _ h => h) (by rfl) ?_; apply Exists.intro; refine ⟨fun w1 h1 K hK => ?_, ?_⟩; · ( go_big_quiet_op; first | exact hK | fail))
    (refine wpAnyG_two (i := 6) (k := 7) (by kernel_rfl) rfl rfl (by rfl) (by rfl) (fun wa hwa K hK => ?_) (fun wa hwa K hK => ?_))
    · skip
      go_simp
      refine hK _ _ ((hCC _ _ hC0 hwa).alloc (by have := hC0.size; have := hwa.size; omega) _) ?_
      clear hK K
      have s1 := Box.new (g := wa.heap.size) #[.int .i64 0, .int .i64 0] 37 wa rfl
      have hC1 := (hCC _ _ hC0 hwa).alloc (by have := hC0.size; have := hwa.size; omega) (.cells #[.int .i64 0, .int .i64 0] 37)
      have hg1 : W0.heap.size ≤ wa.heap.size := Nat.le_trans hC0.size hwa.size
      clear hwa
      obtain ⟨g1, hG⟩ : ∃ G, G = wa.heap.size := ⟨_, rfl⟩
      obtain ⟨wA, hWA⟩ : ∃ X, X = wa.alloc (.cells #[.int .i64 0, .int .i64 0] 37) := ⟨_, rfl⟩
      rw [← hG] at s1 hg1 ⊢
      rw [← hWA] at s1 hC1 ⊢
      clear hG hWA
      (refine wpAnyG_one (i := 7) (by kernel_rfl) rfl (by rfl) (fun wb hwb K hK => ?_))
      go_simp
      have s1b := s1.below hwb
      refine hK _ _ ((hCC _ _ hC1 hwb).alloc (by have := hC1.size; have := hwb.size; omega) _) ?_
      clear hK K
      have s2 := Box.new (g := wb.heap.size) #[.int .i64 0, .int .i64 0] 37 wb rfl
      have s1c := s1b.old (.cells #[.int .i64 0, .int .i64 0] 37)
      have hne : g1 ≠ wb.heap.size := by have := s1b.lt; omega
      have hg2 : W0.heap.size ≤ wb.heap.size := Nat.le_trans hC1.size hwb.size
      have hC2 := (hCC _ _ hC1 hwb).alloc (by have := hC1.size; have := hwb.size; omega) (.cells #[.int .i64 0, .int .i64 0] 37)
      clear hwb s1 s1b hC1
      obtain ⟨g2, hG⟩ : ∃ G, G = wb.heap.size := ⟨_, rfl⟩
      obtain ⟨wB, hWB⟩ : ∃ X, X = wb.alloc (.cells #[.int .i64 0, .int .i64 0] 37) := ⟨_, rfl⟩
      rw [← hG] at s2 hg2 hne ⊢
      rw [← hWB] at s2 s1c hC2 ⊢
      clear hG hWB
      (refine wpAnyG_one (i := 8) (by kernel_rfl) rfl (by rfl) (fun wc hwc K hK => ?_))
      refine wp_store_box (s1c.below hwc) rfl rfl rfl rfl (by kernel_rfl) (by simp [Value.oneCell']) (fun wd za ho => ?_); dsimp only [Act.put]
      have zb := ho.box (s2.below hwc) (Ne.symm hne)
      have hC3 := (hCC _ _ hC2 hwc).trans (ho.below hg1)
      refine hK _ _ hC3 ?_
      clear hK K hC2 hwc ho s1c s2
      (refine wpAnyG_one (i := 9) (by kernel_rfl) rfl (by rfl) (fun we hwe K hK => ?_))
      refine wp_store_box (zb.below hwe) rfl rfl rfl rfl (by kernel_rfl) (by simp [Value.oneCell']) (fun wf zb2 ho => ?_); dsimp only [Act.put]
      have za2 := ho.box (za.below hwe) hne
      have hC4 := (hCC _ _ hC3 hwe).trans (ho.below hg2)
      refine hK _ _ hC4 ?_
      clear hK K hC3 hwe ho za zb
      refine wpAnyG_done (by kernel_rfl) (fun wz hwz => ?_) _
      go_wp2_with fail
      go_meet
      exact ⟨_, _, rfl, rfl, hne, hg1, hg2, hCC _ _ hC4 hwz, za2.below hwz, zb2.below hwz⟩
    · skip
      go_simp
      refine hK _ _ ((hCC _ _ hC0 hwa).alloc (by have := hC0.size; have := hwa.size; omega) _) ?_
      clear hK K
      have s1 := Box.new (g := wa.heap.size) #[.int .i64 0, .int .i64 0] 37 wa rfl
      have hC1 := (hCC _ _ hC0 hwa).alloc (by have := hC0.size; have := hwa.size; omega) (.cells #[.int .i64 0, .int .i64 0] 37)
      have hg1 : W0.heap.size ≤ wa.heap.size := Nat.le_trans hC0.size hwa.size
      clear hwa
      obtain ⟨g1, hG⟩ : ∃ G, G = wa.heap.size := ⟨_, rfl⟩
      obtain ⟨wA, hWA⟩ : ∃ X, X = wa.alloc (.cells #[.int .i64 0, .int .i64 0] 37) := ⟨_, rfl⟩
      rw [← hG] at s1 hg1 ⊢
      rw [← hWA] at s1 hC1 ⊢
      clear hG hWA
      (refine wpAnyG_one (i := 6) (by kernel_rfl) rfl (by rfl) (fun wb hwb K hK => ?_))
      go_simp
      have s1b := s1.below hwb
      refine hK _ _ ((hCC _ _ hC1 hwb).alloc (by have := hC1.size; have := hwb.size; omega) _) ?_
      clear hK K
      have s2 := Box.new (g := wb.heap.size) #[.int .i64 0, .int .i64 0] 37 wb rfl
      have s1c := s1b.old (.cells #[.int .i64 0, .int .i64 0] 37)
      have hne : g1 ≠ wb.heap.size := by have := s1b.lt; omega
      have hg2 : W0.heap.size ≤ wb.heap.size := Nat.le_trans hC1.size hwb.size
      have hC2 := (hCC _ _ hC1 hwb).alloc (by have := hC1.size; have := hwb.size; omega) (.cells #[.int .i64 0, .int .i64 0] 37)
      clear hwb s1 s1b hC1
      obtain ⟨g2, hG⟩ : ∃ G, G = wb.heap.size := ⟨_, rfl⟩
      obtain ⟨wB, hWB⟩ : ∃ X, X = wb.alloc (.cells #[.int .i64 0, .int .i64 0] 37) := ⟨_, rfl⟩
      rw [← hG] at s2 hg2 hne ⊢
      rw [← hWB] at s2 s1c hC2 ⊢
      clear hG hWB
      (refine wpAnyG_one (i := 8) (by kernel_rfl) rfl (by rfl) (fun wc hwc K hK => ?_))
      refine wp_store_box (s2.below hwc) rfl rfl rfl rfl (by kernel_rfl) (by simp [Value.oneCell']) (fun wd za ho => ?_); dsimp only [Act.put]
      have zb := ho.box (s1c.below hwc) hne
      have hC3 := (hCC _ _ hC2 hwc).trans (ho.below hg2)
      refine hK _ _ hC3 ?_
      clear hK K hC2 hwc ho s1c s2
      (refine wpAnyG_one (i := 9) (by kernel_rfl) rfl (by rfl) (fun we hwe K hK => ?_))
      refine wp_store_box (zb.below hwe) rfl rfl rfl rfl (by kernel_rfl) (by simp [Value.oneCell']) (fun wf zb2 ho => ?_); dsimp only [Act.put]
      have za2 := ho.box (za.below hwe) (Ne.symm hne)
      have hC4 := (hCC _ _ hC3 hwe).trans (ho.below hg1)
      refine hK _ _ hC4 ?_
      clear hK K hC3 hwe ho za zb
      refine wpAnyG_done (by kernel_rfl) (fun wz hwz => ?_) _
      go_wp2_with fail
      go_meet
      exact ⟨_, _, rfl, rfl, (Ne.symm hne), hg2, hg1, hCC _ _ hC4 hwz, za2.below hwz, zb2.below hwz⟩
  case rest =>
    obtain ⟨ga, gb, rfl, rfl, nab, hga, hgb, hbx, hA, hB⟩ := hcut
    have hT1 := TB.cells (hT0.below hbx)
    have c2 := hT1.2.2.1
    have c4 := hT1.2.2.2.2
    have e2 : IntKind.i64.wrap (2 * t.least) = 2 * t.least := by rw [IntKind.wrap_i64]; omega
    go_wp2_with fail
    have hs0 := HS0.out
    have hI0 : TI t x1 x2 ga gb wc.heap.size oa ca ob cb w 0 (wc.alloc (.cells #[.int .i64 (2 * t.least), .int .i64 2147483648] 37)) := ⟨(hb0.trans (hbx.mono hb0.size)).trans ((below_alloc1 wc _).mono (by have := hbx.size; have := hb0.size; omega)), (hT0.below hbx).old _, (hR0.below hbx).old _, hA.old _, hB.old _, Box.new _ 37 wc rfl, fun i hi => by omega⟩
    have nac : ga ≠ wc.heap.size := by have := hA.lt; omega
    have nbc : gb ≠ wc.heap.size := by have := hB.lt; omega
    have hgc : w.heap.size + 2 ≤ wc.heap.size := by have := hbx.size; omega
    obtain ⟨W, hW⟩ : ∃ X, X = wc.alloc (.cells #[.int .i64 (2 * t.least), .int .i64 2147483648] 37) := ⟨_, rfl⟩
    rw [← hW] at hI0 ⊢
    clear hW hT1 c2 c4 e2 hA hB hbx hb0 hT0 hR0
    obtain ⟨gc, hgcE⟩ : ∃ g, g = wc.heap.size := ⟨_, rfl⟩
    rw [← hgcE] at hI0 nac nbc hgc ⊢
    replace hga : w.heap.size + 2 ≤ ga := by omega
    replace hgb : w.heap.size + 2 ≤ gb := by omega
    clear hgcE hs0
    go_loopw [11] (fun v11 wr => ∃ k : Nat, k ≤ t.m ∧ v11 = .int .i64 k ∧ TI t x1 x2 ga gb gc oa ca ob cb w k wr) (fun i _ => t.m - (intOf i).toNat)
    case atStart => exact ⟨0, Nat.zero_le _, rfl, hI0⟩
    case round =>
      obtain ⟨k, hk, rfl, hI⟩ := hrel
      have HI := Lib.hid hI
      have ZT := hI.hT
      have hbw := hI.low
      clear hI hI0
      obtain ⟨c0, c1, c2, c3, c4⟩ := TB.cells ZT
      by_cases hlt : k < t.m
      · have hd : decide (k < t.m) = true := by simpa using hlt
        have HLC := Lib.hid (rest_call HK.out (HU.out.mono hbw) ca ob cb hlt)
        have hs0 := HK.out.s0 k hlt
        have hs1 := HK.out.s1 k hlt
        have h10 := pow_ten HK.out.n2
        obtain ⟨b, off, rfl, hlt0, d0, d1, d2⟩ := (HS.out.mono hbw) k hlt
        obtain ⟨y, hy⟩ : ∃ y : Nat, y = (t.s k).shut.toNat := ⟨_, rfl⟩
        have HN : y < 1024 := by omega
        have HSY := Lib.hid (show (t.s k).shut = (y : Int) by omega)
        have HY := Lib.hid hy
        clear hy hs0 hs1 h10
        go_upto_region 6 with fail
        clear c0 c1 c2 c3 c4 hd
        have f0 := fun {X : World} (h : Below wr.heap.size wr X) => ZT.below h
        have hCC : ∀ A B : World, Below wr.heap.size wr A → Below A.heap.size A B → Below wr.heap.size wr B := fun A B h1 h2 => h1.trans (h2.mono h1.size)
        have hC0 : Below wr.heap.size wr wr.drew := (Below.refl _ _).drew
        refine wp_region_garb (Below wr.heap.size wr) (by kernel_rfl) ?_
        (refine wpAnyG_take (i := 0) hCC hC0 rfl (by kernel_rfl) (by kernel_rfl) (by kernel_rfl) (fun _ _ _ _ h => h) (by rfl) ?_; apply Exists.intro; refine ⟨fun w1 h1 K hK => ?_, ?_⟩; · (have f1 := fun W : Aft w1 => TB.cells (ZT.below (hCC _ _ h1 W.below)); have g0 : ∀ W : Aft w1, W.val.cell? ⟨w.heap.size, 0, none⟩ = some (.slice oa t.n ca) := fun W => (f1 W).1; have g1 : ∀ W : Aft w1, W.val.cell? ⟨w.heap.size, 1, none⟩ = some (.int .i64 t.leaks) := fun W => (f1 W).2.1; have g2 : ∀ W : Aft w1, W.val.cell? ⟨w.heap.size, 2, none⟩ = some (.int .i64 t.least) := fun W => (f1 W).2.2.1; have g3 : ∀ W : Aft w1, W.val.cell? ⟨w.heap.size, 3, none⟩ = some (.slice (some ⟨b, off, none⟩) t.m cb) := fun W => (f1 W).2.2.2.1; clear f1; go_big_quiet_op; first | exact hK | fail))
        (refine wpAnyG_take (i := 1) hCC hC0 rfl (by kernel_rfl) (by kernel_rfl) (by kernel_rfl) (fun _ _ _ _ h => h) (by rfl) ?_; apply Exists.intro; refine ⟨fun w1 h1 K hK => ?_, ?_⟩; · ( go_big_quiet_op; first | exact hK | fail))
        (refine wpAnyG_take (i := 2) hCC hC0 rfl (by kernel_rfl) (by kernel_rfl) (by kernel_rfl) (fun _ _ _ _ h => h) (by rfl) ?_; apply Exists.intro; refine ⟨fun w1 h1 K hK => ?_, ?_⟩; · (have g3 : ∀ W : Aft w1, W.val.cell? ⟨w.heap.size, 3, none⟩ = some (.slice (some ⟨b, off, none⟩) t.m cb) := fun W => (TB.cells (ZT.below (hCC _ _ h1 W.below))).2.2.2.1; go_big_quiet_op; first | exact hK | fail))
        (refine wpAnyG_take (i := 3) hCC hC0 rfl (by kernel_rfl) (by kernel_rfl) (by kernel_rfl) (fun _ _ _ _ h => h) (by rfl) ?_; apply Exists.intro; refine ⟨fun w1 h1 K hK => ?_, ?_⟩; · ( go_big_quiet_op; first | exact hK | fail))
        (refine wpAnyG_take (i := 4) hCC hC0 rfl (by kernel_rfl) (by kernel_rfl) (by kernel_rfl) (fun _ _ _ _ h => h) (by rfl) ?_; apply Exists.intro; refine ⟨fun w1 h1 K hK => ?_, ?_⟩; · ( go_big_quiet_op; first | exact hK | fail))
        (refine wpAnyG_take (i := 5) hCC hC0 rfl (by kernel_rfl) (by kernel_rfl) (by kernel_rfl) (fun _ _ _ _ h => h) (by rfl) ?_; apply Exists.intro; refine ⟨fun w1 h1 K hK => ?_, ?_⟩; · (have g0 : ∀ W : Aft w1, W.val.cell? ⟨b, off + k * 3, none⟩ = some (.int .i64 (t.s k).shut) := fun W => ((hCC _ _ h1 W.below).cell (p := ⟨b, off + k * 3, none⟩) hlt0).trans d0; have g1 : ∀ W : Aft w1, W.val.cell? ⟨b, off + k * 3 + 1, none⟩ = some (.int .i64 (t.s k).flow.lo) := fun W => ((hCC _ _ h1 W.below).cell (p := ⟨b, off + k * 3 + 1, none⟩) hlt0).trans d1; have g2 : ∀ W : Aft w1, W.val.cell? ⟨b, off + k * 3 + 1 + 1, none⟩ = some (.int .i64 (t.s k).flow.hi) := fun W => ((hCC _ _ h1 W.below).cell (p := ⟨b, off + k * 3 + 1 + 1, none⟩) hlt0).trans d2; go_big_quiet_op; first | exact hK | fail))
        (refine wpAnyG_take (i := 6) hCC hC0 rfl (by kernel_rfl) (by kernel_rfl) (by kernel_rfl) (fun _ _ _ _ h => h) (by rfl) ?_; apply Exists.intro; refine ⟨fun w1 h1 K hK => ?_, ?_⟩; · ( go_big_quiet_op; first | exact hK | exact ⟨_, fun W => aft_call (HLC.out _ (hCC _ _ h1 W.below)), hK⟩))
        (refine wpAnyG_one (i := 7) (by kernel_rfl) rfl (by rfl) (fun wa hwa K hK => ?_))
        go_simp
        refine hK _ _ ((hCC _ _ hC0 hwa).alloc (by have := hC0.size; have := hwa.size; omega) _) ?_
        clear hK K
        have s9 := Box.new (g := wa.heap.size) #[.int .i64 0, .int .i64 0] 37 wa rfl
        have hC1 := (hCC _ _ hC0 hwa).alloc (by have := hC0.size; have := hwa.size; omega) (.cells #[.int .i64 0, .int .i64 0] 37)
        have hg9 : wr.heap.size ≤ wa.heap.size := Nat.le_trans hC0.size hwa.size
        clear hwa
        obtain ⟨g9, hG⟩ : ∃ G, G = wa.heap.size := ⟨_, rfl⟩
        obtain ⟨wA, hWA⟩ : ∃ X, X = wa.alloc (.cells #[.int .i64 0, .int .i64 0] 37) := ⟨_, rfl⟩
        rw [← hG] at s9 hg9 ⊢
        rw [← hWA] at s9 hC1 ⊢
        clear hG hWA
        (refine wpAnyG_one (i := 8) (by kernel_rfl) rfl (by rfl) (fun wb hwb K hK => ?_))
        refine wp_store_box (s9.below hwb) rfl rfl rfl rfl (by kernel_rfl) (by simp [Value.oneCell']) (fun wc s8 ho => ?_); dsimp only [Act.put]
        refine hK _ _ ((hCC _ _ hC1 hwb).trans (ho.below hg9)) ?_
        clear hK K
        have hC2 := (hCC _ _ hC1 hwb).trans (ho.below hg9)
        clear s9 hC1 ho hwb
        refine wpAnyG_done (by kernel_rfl) (fun wz hwz => ?_) _
        have h9 := s8.below hwz
        have hz9 := hCC _ _ hC2 hwz
        clear s8 hC2 hwz hC0 hCC f0
        have hbz := hbw.trans (hz9.mono hbw.size)
        have ZA0 := Lib.hid (HI.out.hA.below hz9)
        have ZB0 := Lib.hid (HI.out.hB.below hz9)
        have ZC0 := Lib.hid (HI.out.hC.below hz9)
        have ZR0 := Lib.hid (HI.out.hR.below hz9)
        have ZT0 := Lib.hid (HI.out.hT.below hz9)
        have hlt1 : b < wz.heap.size := Nat.lt_of_lt_of_le hlt0 hz9.size
        have s0 : wz.cell? ⟨b, off + k * 3, none⟩ = some (.int .i64 (y : Nat)) := by rw [← HSY.out]; exact (hz9.cell (p := ⟨b, off + k * 3, none⟩) hlt0).trans d0
        have c3 := ZT0.out.cell 3 (v := .slice (some ⟨b, off, none⟩) t.m cb) rfl
        have c4 := ZT0.out.lt
        have f0 : ∀ W : Aft wz, W.val.cell? ⟨w.heap.size, 3, none⟩ = some (.slice (some ⟨b, off, none⟩) t.m cb) := fun W => (W.below.cell (p := ⟨w.heap.size, 3, none⟩) c4).trans c3
        have f1 : ∀ W : Aft wz, W.val.cell? ⟨b, off + k * 3, none⟩ = some (.int .i64 (y : Nat)) := fun W => (W.below.cell (p := ⟨b, off + k * 3, none⟩) hlt1).trans s0
        clear d0 d1 d2 ZT hz9 hlt0
        cases hp : hasB y x1 <;> cases hq : hasB y x2
        · skip
          have HP1 := Lib.hid hp
          have HQ1 := Lib.hid hq
          have EP := Lib.hid (show twoP t x1 x2 k = true by unfold twoP; rw [← HY.out, hp, hq]; rfl)
          have EK := Lib.hid (show twoK t x1 x2 (k + 1) = { twoK t x1 x2 k with c := cutS (twoK t x1 x2 k).c (t.rest k).flow } by show stepT _ _ _ _ _ = _; unfold stepT; rw [← HY.out, hp, hq]; rfl)
          clear hp hq
          go_upto_region 7 with fail
          refine wp_region_aft (by kernel_rfl) (by kernel_rfl) ?_
          repeat (go_big_quiet_step ((go_at_call 21; exact aft_call (has_b y _ _ (by omega) (by omega)))))
          refine wpQuiet_nil ?_
          intro WA
          obtain ⟨wy, hwy⟩ : ∃ X, X = WA.val := ⟨_, rfl⟩
          have hby := WA.below
          rw [← hwy] at hby ⊢
          clear hwy WA
          rw [HP1.out, HQ1.out]
          have ZA := Lib.hid (ZA0.out.below hby)
          have ZB := Lib.hid (ZB0.out.below hby)
          have ZC := Lib.hid (ZC0.out.below hby)
          have ZR := Lib.hid (ZR0.out.below hby)
          have ZT := Lib.hid (ZT0.out.below hby)
          have Z9 := h9.below hby
          have hbv := hbz.trans (hby.mono hbz.size)
          have z0 := Z9.cell 0 (v := .int .i64 (t.rest k).flow.lo) rfl
          have z1 := Z9.cell 1 (v := .int .i64 (t.rest k).flow.hi) rfl
          have z2 := Z9.lt
          clear hby Z9 h9 hbz ZA0 ZB0 ZC0 ZR0 ZT0 f0 f1 s0 c3
          have o0 := ZC.out.cell 0 (v := .int .i64 ((twoK t x1 x2 k).c).lo) rfl
          have o1 := ZC.out.cell 1 (v := .int .i64 ((twoK t x1 x2 k).c).hi) rfl
          have o2 := ZC.out.lt
          go_wp2_with fail
          refine (refCut_any (twoK t x1 x2 k).c (t.rest k).flow _).mono ?_
          rintro e w8 ⟨rfl, hb8⟩
          have ZO8 := ZC.out.below hb8
          have p0 := ZO8.cell 0 (v := .int .i64 ((twoK t x1 x2 k).c).lo) rfl
          have p1 := ZO8.cell 1 (v := .int .i64 ((twoK t x1 x2 k).c).hi) rfl
          have p2 := ZO8.lt
          have p3 := ZO8.frozen 0
          have p4 := ZO8.frozen 1
          have HB8 := Lib.hid hb8
          have HO8 := Lib.hid ZO8
          clear hb8 ZO8 o0 o1 o2 z0 z1 z2
          obtain ⟨q, hq⟩ : ∃ q, q = cutS (twoK t x1 x2 k).c (t.rest k).flow := ⟨_, rfl⟩
          rw [← hq] at EK ⊢
          clear hq
          go_wp2_with fail
          have ho := ((Only.refl gc w8).setCell 0 (.int .i64 q.lo)).setCell 1 (.int .i64 q.hi)
          have HL9 := Lib.hid (show TI t x1 x2 ga gb gc oa ca (some ⟨b, off, none⟩) cb w (k + 1) ((w8.setCell ⟨gc, 0, none⟩ (.int .i64 q.lo)).setCell ⟨gc, 1, none⟩ (.int .i64 q.hi)) from
            ⟨(hbv.trans (HB8.out.mono hbv.size)).trans (ho.below (by omega)), ho.box (ZT.out.below HB8.out) (by omega), ho.box (ZR.out.below HB8.out) (by omega), by rw [EK.out]; exact ho.box (ZA.out.below HB8.out) (by omega), by rw [EK.out]; exact ho.box (ZB.out.below HB8.out) (by omega), by rw [EK.out]; exact HO8.out.set2 _ _, fun i hi => by
              by_cases h : i = k
              · subst h; exact EP.out
              · exact HI.out.hP i (by omega)⟩)
          clear ho
          go_roundw
          case rel => exact ⟨k + 1, by omega, by go_num, HL9.out⟩
          case measure => simp [intOf]; omega
        · skip
          have HP1 := Lib.hid hp
          have HQ1 := Lib.hid hq
          have EP := Lib.hid (show twoP t x1 x2 k = true by unfold twoP; rw [← HY.out, hp, hq]; rfl)
          have EK := Lib.hid (show twoK t x1 x2 (k + 1) = { twoK t x1 x2 k with a := cutS (twoK t x1 x2 k).a (t.rest k).flow } by show stepT _ _ _ _ _ = _; unfold stepT; rw [← HY.out, hp, hq]; rfl)
          clear hp hq
          go_upto_region 7 with fail
          refine wp_region_aft (by kernel_rfl) (by kernel_rfl) ?_
          repeat (go_big_quiet_step ((go_at_call 21; exact aft_call (has_b y _ _ (by omega) (by omega)))))
          refine wpQuiet_nil ?_
          intro WA
          obtain ⟨wy, hwy⟩ : ∃ X, X = WA.val := ⟨_, rfl⟩
          have hby := WA.below
          rw [← hwy] at hby ⊢
          clear hwy WA
          rw [HP1.out, HQ1.out]
          have ZA := Lib.hid (ZA0.out.below hby)
          have ZB := Lib.hid (ZB0.out.below hby)
          have ZC := Lib.hid (ZC0.out.below hby)
          have ZR := Lib.hid (ZR0.out.below hby)
          have ZT := Lib.hid (ZT0.out.below hby)
          have Z9 := h9.below hby
          have hbv := hbz.trans (hby.mono hbz.size)
          have z0 := Z9.cell 0 (v := .int .i64 (t.rest k).flow.lo) rfl
          have z1 := Z9.cell 1 (v := .int .i64 (t.rest k).flow.hi) rfl
          have z2 := Z9.lt
          clear hby Z9 h9 hbz ZA0 ZB0 ZC0 ZR0 ZT0 f0 f1 s0 c3
          have o0 := ZA.out.cell 0 (v := .int .i64 ((twoK t x1 x2 k).a).lo) rfl
          have o1 := ZA.out.cell 1 (v := .int .i64 ((twoK t x1 x2 k).a).hi) rfl
          have o2 := ZA.out.lt
          go_wp2_with fail
          refine (refCut_any (twoK t x1 x2 k).a (t.rest k).flow _).mono ?_
          rintro e w8 ⟨rfl, hb8⟩
          have ZO8 := ZA.out.below hb8
          have p0 := ZO8.cell 0 (v := .int .i64 ((twoK t x1 x2 k).a).lo) rfl
          have p1 := ZO8.cell 1 (v := .int .i64 ((twoK t x1 x2 k).a).hi) rfl
          have p2 := ZO8.lt
          have p3 := ZO8.frozen 0
          have p4 := ZO8.frozen 1
          have HB8 := Lib.hid hb8
          have HO8 := Lib.hid ZO8
          clear hb8 ZO8 o0 o1 o2 z0 z1 z2
          obtain ⟨q, hq⟩ : ∃ q, q = cutS (twoK t x1 x2 k).a (t.rest k).flow := ⟨_, rfl⟩
          rw [← hq] at EK ⊢
          clear hq
          go_wp2_with fail
          have ho := ((Only.refl ga w8).setCell 0 (.int .i64 q.lo)).setCell 1 (.int .i64 q.hi)
          have HL9 := Lib.hid (show TI t x1 x2 ga gb gc oa ca (some ⟨b, off, none⟩) cb w (k + 1) ((w8.setCell ⟨ga, 0, none⟩ (.int .i64 q.lo)).setCell ⟨ga, 1, none⟩ (.int .i64 q.hi)) from
            ⟨(hbv.trans (HB8.out.mono hbv.size)).trans (ho.below (by omega)), ho.box (ZT.out.below HB8.out) (by omega), ho.box (ZR.out.below HB8.out) (by omega), by rw [EK.out]; exact HO8.out.set2 _ _, by rw [EK.out]; exact ho.box (ZB.out.below HB8.out) (by omega), by rw [EK.out]; exact ho.box (ZC.out.below HB8.out) (by omega), fun i hi => by
              by_cases h : i = k
              · subst h; exact EP.out
              · exact HI.out.hP i (by omega)⟩)
          clear ho
          go_roundw
          case rel => exact ⟨k + 1, by omega, by go_num, HL9.out⟩
          case measure => simp [intOf]; omega
        · skip
          have HP1 := Lib.hid hp
          have HQ1 := Lib.hid hq
          have EP := Lib.hid (show twoP t x1 x2 k = true by unfold twoP; rw [← HY.out, hp, hq]; rfl)
          have EK := Lib.hid (show twoK t x1 x2 (k + 1) = { twoK t x1 x2 k with b := cutS (twoK t x1 x2 k).b (t.rest k).flow } by show stepT _ _ _ _ _ = _; unfold stepT; rw [← HY.out, hp, hq]; rfl)
          clear hp hq
          go_upto_region 7 with fail
          refine wp_region_aft (by kernel_rfl) (by kernel_rfl) ?_
          repeat (go_big_quiet_step ((go_at_call 21; exact aft_call (has_b y _ _ (by omega) (by omega)))))
          refine wpQuiet_nil ?_
          intro WA
          obtain ⟨wy, hwy⟩ : ∃ X, X = WA.val := ⟨_, rfl⟩
          have hby := WA.below
          rw [← hwy] at hby ⊢
          clear hwy WA
          rw [HP1.out, HQ1.out]
          have ZA := Lib.hid (ZA0.out.below hby)
          have ZB := Lib.hid (ZB0.out.below hby)
          have ZC := Lib.hid (ZC0.out.below hby)
          have ZR := Lib.hid (ZR0.out.below hby)
          have ZT := Lib.hid (ZT0.out.below hby)
          have Z9 := h9.below hby
          have hbv := hbz.trans (hby.mono hbz.size)
          have z0 := Z9.cell 0 (v := .int .i64 (t.rest k).flow.lo) rfl
          have z1 := Z9.cell 1 (v := .int .i64 (t.rest k).flow.hi) rfl
          have z2 := Z9.lt
          clear hby Z9 h9 hbz ZA0 ZB0 ZC0 ZR0 ZT0 f0 f1 s0 c3
          have o0 := ZB.out.cell 0 (v := .int .i64 ((twoK t x1 x2 k).b).lo) rfl
          have o1 := ZB.out.cell 1 (v := .int .i64 ((twoK t x1 x2 k).b).hi) rfl
          have o2 := ZB.out.lt
          go_wp2_with fail
          refine (refCut_any (twoK t x1 x2 k).b (t.rest k).flow _).mono ?_
          rintro e w8 ⟨rfl, hb8⟩
          have ZO8 := ZB.out.below hb8
          have p0 := ZO8.cell 0 (v := .int .i64 ((twoK t x1 x2 k).b).lo) rfl
          have p1 := ZO8.cell 1 (v := .int .i64 ((twoK t x1 x2 k).b).hi) rfl
          have p2 := ZO8.lt
          have p3 := ZO8.frozen 0
          have p4 := ZO8.frozen 1
          have HB8 := Lib.hid hb8
          have HO8 := Lib.hid ZO8
          clear hb8 ZO8 o0 o1 o2 z0 z1 z2
          obtain ⟨q, hq⟩ : ∃ q, q = cutS (twoK t x1 x2 k).b (t.rest k).flow := ⟨_, rfl⟩
          rw [← hq] at EK ⊢
          clear hq
          go_wp2_with fail
          have ho := ((Only.refl gb w8).setCell 0 (.int .i64 q.lo)).setCell 1 (.int .i64 q.hi)
          have HL9 := Lib.hid (show TI t x1 x2 ga gb gc oa ca (some ⟨b, off, none⟩) cb w (k + 1) ((w8.setCell ⟨gb, 0, none⟩ (.int .i64 q.lo)).setCell ⟨gb, 1, none⟩ (.int .i64 q.hi)) from
            ⟨(hbv.trans (HB8.out.mono hbv.size)).trans (ho.below (by omega)), ho.box (ZT.out.below HB8.out) (by omega), ho.box (ZR.out.below HB8.out) (by omega), by rw [EK.out]; exact ho.box (ZA.out.below HB8.out) (by omega), by rw [EK.out]; exact HO8.out.set2 _ _, by rw [EK.out]; exact ho.box (ZC.out.below HB8.out) (by omega), fun i hi => by
              by_cases h : i = k
              · subst h; exact EP.out
              · exact HI.out.hP i (by omega)⟩)
          clear ho
          go_roundw
          case rel => exact ⟨k + 1, by omega, by go_num, HL9.out⟩
          case measure => simp [intOf]; omega
        · skip
          have HP1 := Lib.hid hp
          have HQ1 := Lib.hid hq
          have EK := Lib.hid (show twoK t x1 x2 (k + 1) = twoK t x1 x2 k by show stepT _ _ _ _ _ = _; unfold stepT; rw [← HY.out, hp, hq]; rfl)
          cases hin : in0 (t.rest k).flow
          · have HII := Lib.hid (show withinB 0 (t.rest k).flow.lo (t.rest k).flow.hi = false from hin)
            have E := Lib.hid (show twoR t x1 x2 = none from twoR_bad hlt (by unfold twoP; rw [← HY.out, hp, hq, hin]; rfl))
            clear hp hq hin
            go_upto_region 7 with fail
            refine wp_region_aft (by kernel_rfl) (by kernel_rfl) ?_
            repeat (go_big_quiet_step ((go_at_call 21; exact aft_call (has_b y _ _ (by omega) (by omega)))))
            refine wpQuiet_nil ?_
            intro WA
            obtain ⟨wy, hwy⟩ : ∃ X, X = WA.val := ⟨_, rfl⟩
            have hby := WA.below
            rw [← hwy] at hby ⊢
            clear hwy WA
            rw [HP1.out, HQ1.out]
            have ZA := Lib.hid (ZA0.out.below hby)
            have ZB := Lib.hid (ZB0.out.below hby)
            have ZC := Lib.hid (ZC0.out.below hby)
            have ZR := Lib.hid (ZR0.out.below hby)
            have ZT := Lib.hid (ZT0.out.below hby)
            have Z9 := h9.below hby
            have hbv := hbz.trans (hby.mono hbz.size)
            have z0 := Z9.cell 0 (v := .int .i64 (t.rest k).flow.lo) rfl
            have z1 := Z9.cell 1 (v := .int .i64 (t.rest k).flow.hi) rfl
            have z2 := Z9.lt
            clear hby Z9 h9 hbz ZA0 ZB0 ZC0 ZR0 ZT0 f0 f1 s0 c3
            have r0 := ZR.out.cell 0 (v := .int .i64 0) rfl
            have r1 := ZR.out.cell 1 (v := .int .i64 0) rfl
            have r2 := ZR.out.lt
            have r3 := ZR.out.frozen 0
            have r4 := ZR.out.frozen 1
            have o0 := ZA.out.cell 0 (v := .int .i64 (twoK t x1 x2 k).a.lo) rfl
            have o1 := ZA.out.cell 1 (v := .int .i64 (twoK t x1 x2 k).a.hi) rfl
            have o2 := ZA.out.lt
            go_wp2_with fail
            refine (in_any _ _ _ _).mono ?_
            rintro e w9 ⟨rfl, rfl⟩
            rw [HII.out]
            go_wp2_with fail
            have PQ := put2 r0 r1 (.int .i64 (twoK t x1 x2 k).a.lo) (.int .i64 (twoK t x1 x2 k).a.hi)
            exact bodyPost_ret (v := .tuple #[(twoK t x1 x2 k).a.val, .bool false]) (by simp [results, Tryd.results48, go_sem, PQ.1, PQ.2]) rfl ⟨(hbv.setCell (by dsimp only; omega) _).setCell (by dsimp only; omega) _, (twoK t x1 x2 k).a, by rw [E.out]; rfl, fun s h => by rw [E.out] at h; cases h⟩
          · have HII := Lib.hid (show withinB 0 (t.rest k).flow.lo (t.rest k).flow.hi = true from hin)
            have EP := Lib.hid (show twoP t x1 x2 k = true by unfold twoP; rw [hin]; simp)
            clear hp hq hin
            go_upto_region 7 with fail
            refine wp_region_aft (by kernel_rfl) (by kernel_rfl) ?_
            repeat (go_big_quiet_step ((go_at_call 21; exact aft_call (has_b y _ _ (by omega) (by omega)))))
            refine wpQuiet_nil ?_
            intro WA
            obtain ⟨wy, hwy⟩ : ∃ X, X = WA.val := ⟨_, rfl⟩
            have hby := WA.below
            rw [← hwy] at hby ⊢
            clear hwy WA
            rw [HP1.out, HQ1.out]
            have ZA := Lib.hid (ZA0.out.below hby)
            have ZB := Lib.hid (ZB0.out.below hby)
            have ZC := Lib.hid (ZC0.out.below hby)
            have ZR := Lib.hid (ZR0.out.below hby)
            have ZT := Lib.hid (ZT0.out.below hby)
            have Z9 := h9.below hby
            have hbv := hbz.trans (hby.mono hbz.size)
            have z0 := Z9.cell 0 (v := .int .i64 (t.rest k).flow.lo) rfl
            have z1 := Z9.cell 1 (v := .int .i64 (t.rest k).flow.hi) rfl
            have z2 := Z9.lt
            clear hby Z9 h9 hbz ZA0 ZB0 ZC0 ZR0 ZT0 f0 f1 s0 c3
            go_wp2_with fail
            refine (in_any _ _ _ _).mono ?_
            rintro e w9 ⟨rfl, rfl⟩
            rw [HII.out]
            go_wp2_with fail
            go_roundw
            case rel => exact ⟨k + 1, by omega, by go_num, hbv, ZT.out, ZR.out, by rw [EK.out]; exact ZA.out, by rw [EK.out]; exact ZB.out, by rw [EK.out]; exact ZC.out, fun i hi => by
              by_cases h : i = k
              · subst h; exact EP.out
              · exact HI.out.hP i (by omega)⟩
            case measure => simp [intOf]; omega
      · obtain rfl : k = t.m := by omega
        have hd : decide (t.m < t.m) = false := by simp
        have EA := Lib.hid (twoR_eq (allB_iff.2 HI.out.hP))
        obtain ⟨hsA, hsB, hsC⟩ := twoK_small HK.out (x1 := x1) (x2 := x2) (Nat.le_refl t.m)
        have ZA := HI.out.hA
        have ZB := HI.out.hB
        have ZC := HI.out.hC
        have ZR := HI.out.hR
        obtain ⟨p, hp⟩ : ∃ p, p = twoK t x1 x2 t.m := ⟨_, rfl⟩
        rw [← hp] at ZA ZB ZC EA hsA hsB hsC
        unfold Spn.small at hsA hsB hsC
        have a0 := ZA.cell 0 (v := .int .i64 p.a.lo) rfl
        have a1 := ZA.cell 1 (v := .int .i64 p.a.hi) rfl
        have b0 := ZB.cell 0 (v := .int .i64 p.b.lo) rfl
        have b1 := ZB.cell 1 (v := .int .i64 p.b.hi) rfl
        have x0 := ZC.cell 0 (v := .int .i64 p.c.lo) rfl
        have x1' := ZC.cell 1 (v := .int .i64 p.c.hi) rfl
        have r0 := ZR.cell 0 (v := .int .i64 0) rfl
        have r1 := ZR.cell 1 (v := .int .i64 0) rfl
        have al := ZA.lt
        have bl := ZB.lt
        have cl := ZC.lt
        have rl := ZR.lt
        have r2 := ZR.frozen 0
        have r3 := ZR.frozen 1
        have ZA' := Lib.hid ZA
        have ZR' := Lib.hid ZR
        have HBW := Lib.hid hbw
        clear hp ZA ZB ZC ZR HI ZT
        by_cases hb : p.b.hi < p.b.lo
        · have E := Lib.hid (show twoR t x1 x2 = none by rw [EA.out]; unfold twoB; rw [decide_eq_true hb]; rfl)
          go_wp2_with fail
          have PQ := put2 r0 r1 (.int .i64 p.a.lo) (.int .i64 p.a.hi)
          exact bodyPost_ret (v := .tuple #[p.a.val, .bool false]) (by simp [results, Tryd.results48, go_sem, PQ.1, PQ.2]) rfl ⟨(hbw.setCell (by dsimp only; omega) _).setCell (by dsimp only; omega) _, p.a, by rw [E.out]; rfl, fun s h => by rw [E.out] at h; cases h⟩
        by_cases hc : p.c.hi < p.c.lo
        · have E := Lib.hid (show twoR t x1 x2 = none by rw [EA.out]; unfold twoB; rw [decide_eq_true hc]; simp)
          go_wp2_with fail
          have PQ := put2 r0 r1 (.int .i64 p.a.lo) (.int .i64 p.a.hi)
          exact bodyPost_ret (v := .tuple #[p.a.val, .bool false]) (by simp [results, Tryd.results48, go_sem, PQ.1, PQ.2]) rfl ⟨(hbw.setCell (by dsimp only; omega) _).setCell (by dsimp only; omega) _, p.a, by rw [E.out]; rfl, fun s h => by rw [E.out] at h; cases h⟩
        have EB := Lib.hid (show twoR t x1 x2 = if decide ((endT p).lo ≤ (endT p).hi) then some (endT p) else none by rw [EA.out]; unfold twoB; rw [decide_eq_false hb, decide_eq_false hc]; rfl)
        clear EA
        go_wp2_with fail
        refine (refCut_any p.a ⟨p.c.lo - p.b.hi, p.c.hi - p.b.lo⟩ _).mono ?_
        rintro e w8 ⟨rfl, hb8⟩
        have ZO8 := ZA'.out.below hb8
        have p0 := ZO8.cell 0 (v := .int .i64 p.a.lo) rfl
        have p1 := ZO8.cell 1 (v := .int .i64 p.a.hi) rfl
        have p2 := ZO8.lt
        have p3 := ZO8.frozen 0
        have p4 := ZO8.frozen 1
        have HB8 := Lib.hid hb8
        have HO8 := Lib.hid ZO8
        have HR8 := Lib.hid (ZR'.out.below hb8)
        clear hb8 ZO8 a0 a1 b0 b1 x0 x1' r0 r1 r2 r3 al bl cl rl hsA hsB hsC hb hc
        have EQ : cutS p.a ⟨p.c.lo - p.b.hi, p.c.hi - p.b.lo⟩ = endT p := rfl
        rw [EQ]
        clear EQ
        obtain ⟨q, hq⟩ : ∃ q, q = endT p := ⟨_, rfl⟩
        rw [← hq] at EB ⊢
        clear hq
        go_upto_region 19 with fail
        have ho := ((Only.refl ga w8).setCell 0 (.int .i64 q.lo)).setCell 1 (.int .i64 q.hi)
        have ZO := HO8.out.set2 (.int .i64 q.lo) (.int .i64 q.hi)
        have ZR := ho.box HR8.out (by omega)
        have hbv := (hbw.trans (HB8.out.mono hbw.size)).trans (ho.below (by omega))
        obtain ⟨wr, hwr⟩ : ∃ X, X = ((w8.setCell ⟨ga, 0, none⟩ (.int .i64 q.lo)).setCell ⟨ga, 1, none⟩ (.int .i64 q.hi)) := ⟨_, rfl⟩
        rw [← hwr] at ZO ZR hbv ⊢
        clear hwr ho p0 p1 p2 p3 p4 HO8 HR8 HB8 hbw
        have nR : ga ≠ w.heap.size + 1 := by omega
        have hCC : ∀ A B : World, Same (fun b => b < wr.heap.size ∧ b ≠ w.heap.size + 1) wr A → Below A.heap.size A B → Same (fun b => b < wr.heap.size ∧ b ≠ w.heap.size + 1) wr B := fun A B h1 h2 => h1.trans (Same.of_below h2 fun _ hk _ => hk)
        have hC0 : Same (fun b => b < wr.heap.size ∧ b ≠ w.heap.size + 1) wr wr.drew := (Same.refl _ _).drew
        refine wp_region_garb (Same (fun b => b < wr.heap.size ∧ b ≠ w.heap.size + 1) wr) (by kernel_rfl) ?_
        (refine wpAnyG_take (i := 0) hCC hC0 rfl (by kernel_rfl) (by kernel_rfl) (by kernel_rfl) (fun _ _ _ _ h => h) (by rfl) ?_; apply Exists.intro; refine ⟨fun w1 h1 K hK => ?_, ?_⟩; · (have f := fun W : Aft w1 => ZO.same (hCC _ _ h1 W.below) ⟨ZO.lt, nR⟩; have f0 : ∀ W : Aft w1, W.val.cell? ⟨ga, 0, none⟩ = some (.int .i64 q.lo) := fun W => (f W).cell 0 rfl; have f1 : ∀ W : Aft w1, W.val.cell? ⟨ga, 1, none⟩ = some (.int .i64 q.hi) := fun W => (f W).cell 1 rfl; go_big_quiet_op; first | exact hK | fail))
        (refine wpAnyG_take (i := 1) hCC hC0 rfl (by kernel_rfl) (by kernel_rfl) (by kernel_rfl) (fun _ _ _ _ h => h) (by rfl) ?_; apply Exists.intro; refine ⟨fun w1 h1 K hK => ?_, ?_⟩; · ( go_big_quiet_op; first | exact hK | fail))
        (refine wpAnyG_take (i := 2) hCC hC0 rfl (by kernel_rfl) (by kernel_rfl) (by kernel_rfl) (fun _ _ _ _ h => h) (by rfl) ?_; apply Exists.intro; refine ⟨fun w1 h1 K hK => ?_, ?_⟩; · (have f0 : ∀ W : Aft w1, W.val.cell? ⟨ga, 0, none⟩ = some (.int .i64 q.lo) := fun W => (ZO.same (hCC _ _ h1 W.below) ⟨ZO.lt, nR⟩).cell 0 rfl; go_big_quiet_op; first | exact hK | fail))
        (refine wpAnyG_take (i := 3) hCC hC0 rfl (by kernel_rfl) (by kernel_rfl) (by kernel_rfl) (fun _ _ _ _ h => h) (by rfl) ?_; apply Exists.intro; refine ⟨fun w1 h1 K hK => ?_, ?_⟩; · ( go_big_quiet_op; first | exact hK | fail))
        (refine wpAnyG_take (i := 4) hCC hC0 rfl (by kernel_rfl) (by kernel_rfl) (by kernel_rfl) (fun _ _ _ _ h => h) (by rfl) ?_; apply Exists.intro; refine ⟨fun w1 h1 K hK => ?_, ?_⟩; · (have f0 : ∀ W : Aft w1, W.val.cell? ⟨ga, 1, none⟩ = some (.int .i64 q.hi) := fun W => (ZO.same (hCC _ _ h1 W.below) ⟨ZO.lt, nR⟩).cell 1 rfl; go_big_quiet_op; first | exact hK | fail))
        (refine wpAnyG_take (i := 5) hCC hC0 rfl (by kernel_rfl) (by kernel_rfl) (by kernel_rfl) (fun _ _ _ _ h => h) (by rfl) ?_; apply Exists.intro; refine ⟨fun w1 h1 K hK => ?_, ?_⟩; · ( go_big_quiet_op; first | exact hK | fail))
        (refine wpAnyG_one (i := 6) (by kernel_rfl) rfl (by rfl) (fun wa hwa K hK => ?_))
        refine wp_store_box (ZR.drew.below hwa) rfl rfl rfl rfl (by kernel_rfl) (by simp [Value.oneCell']) (fun ws zs ho => ?_); dsimp only [Act.put]
        have hS9 : Same (fun b => b < wr.heap.size ∧ b ≠ w.heap.size + 1) wr ws := (hCC _ _ hC0 hwa).trans ⟨ho.os, ho.tape, ho.output, Nat.le_of_eq ho.size.symm, fun b _ hp => ho.block b hp.2⟩
        refine hK _ _ hS9 ?_
        clear hK K
        (refine wpAnyG_one (i := 7) (by kernel_rfl) rfl (by rfl) (fun wb hwb K hK => ?_))
        go_simp
        refine hK _ _ (hCC _ _ hS9 hwb) ?_
        clear hK K
        refine wpAnyG_done (by kernel_rfl) (fun wz hwz => ?_) _
        have zv := (zs.below hwb).below hwz
        have hbz : Below w.heap.size w wz := by
          have hsz := hbv.size
          exact (((hbv.drew).trans (hwa.mono (by simpa using hsz))).trans (ho.below (by omega))).trans ((hwb.trans (hwz.mono hwb.size)).mono (by rw [ho.size]; have := hwa.size; simp at this; omega))
        have v0 := zv.cell 0 (v := .int .i64 q.lo) rfl
        have v1 := zv.cell 1 (v := .int .i64 q.hi) rfl
        clear hCC hC0 hwa hwb hwz hS9 ho zs ZO ZR zv
        cases hle : decide (q.lo ≤ q.hi)
        · have E := Lib.hid (show twoR t x1 x2 = none by rw [EB.out, hle]; rfl)
          clear hle
          go_wp2_with fail
          exact bodyPost_ret (v := .tuple #[q.val, .bool false]) (by simp [results, Tryd.results48, go_sem, v0, v1]) rfl ⟨hbz, q, by rw [E.out]; rfl, fun s h => by rw [E.out] at h; cases h⟩
        · have E := Lib.hid (show twoR t x1 x2 = some q by rw [EB.out, hle]; rfl)
          clear hle
          go_wp2_with fail
          exact bodyPost_ret (v := .tuple #[q.val, .bool true]) (by simp [results, Tryd.results48, go_sem, v0, v1]) rfl ⟨hbz, q, by rw [E.out]; rfl, fun s h => by rw [E.out] at h; cases h; rfl⟩
end Go.Proofs.YtpognhnmkjpipaaDoor
