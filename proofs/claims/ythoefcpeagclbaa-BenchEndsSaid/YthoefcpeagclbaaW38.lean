/- The bench, the catch and the row of the examples lie in memory; what the functions come to at them. -/
import Derived.Test.YthoefcpeagclbaaW36
import Derived.Test.YthoefcpeagclbaaP3
import Derived.Test.YthoefcpeagclbaaGarb2
namespace Go.Proofs.Ythoefcpeagclbaa
open Go.RowKit
def exT : Nat → Mark
  | 0 => ⟨0, 1000⟩
  | 1 => ⟨100, 11000⟩
  | _ => ⟨300, 35000⟩
def exU : Nat → Mark
  | 0 => ⟨100, 999700⟩
  | _ => ⟨200, 998200⟩
def exR : Nat → Spn
  | 0 => ⟨10000, 10010⟩
  | _ => ⟨9800, 9800⟩
abbrev exB : Bnch := ⟨false, 10, ⟨0, 0⟩, ⟨0, 20⟩, 3, exT⟩
abbrev exS : Bnch := ⟨true, 5, ⟨1050, 1100⟩, ⟨0, 0⟩, 2, exU⟩
abbrev exX : Ctch := ⟨⟨10, 10⟩, ⟨110, 111⟩, ⟨0, 0⟩⟩
abbrev exY : Ctch := ⟨⟨500, 500⟩, ⟨10480, 10480⟩, ⟨150, 160⟩⟩
theorem ex_water : exB.waterR exX = (⟨10180, 10360⟩, 0) := by decide +kernel
theorem ex_water2 : exS.waterR exY = (⟨9990, 10014⟩, 0) := by decide +kernel
theorem ex_test : exB.testR exX 2 exR = (⟨10180, 10360⟩, 0) := by decide +kernel
theorem ex_flow : exB.flowR exX ⟨60000, 60000⟩ = (⟨610, 622⟩, 0) := by decide +kernel
theorem ex_gap : gapS ⟨10180, 10360⟩ 0 2 exR 0 1 = ⟨193, 207⟩ ∧ gapE 0 2 0 1 = 0 := by decide +kernel
/-- the example's memory -/
def ExAt (n tb rb : Nat) (w : World) : Prop := n ≤ tb ∧ n ≤ rb ∧ MarksAt w (some ⟨tb, 0, none⟩) 3 exT ∧ SpnsAt w (some ⟨rb, 0, none⟩) 2 exR
def SamplePost (w : World) (e : Ending) (w' : World) : Prop :=
  ∃ tb rb, e = .returned (.tuple #[exB.val (some ⟨tb, 0, none⟩) 3, exX.val, .slice (some ⟨rb, 0, none⟩) 2 2]) ∧ Below w.heap.size w w' ∧ ExAt w.heap.size tb rb w'
theorem bcell {W w1 : World} (hb : Below W.heap.size W w1) : (∀ b o, b < W.heap.size → w1.cell? ⟨b, o, none⟩ = W.cell? ⟨b, o, none⟩) ∧ (∀ b o, b < W.heap.size → w1.frozen? ⟨b, o, none⟩ = W.frozen? ⟨b, o, none⟩) :=
  ⟨fun b o h => hb.cell (p := ⟨b, o, none⟩) h, fun b o h => hb.frozen (p := ⟨b, o, none⟩) h⟩
theorem Two.alloc {p q : Nat} {w w' : World} (h : Two p q w w') (o : Obj) : Two p q w (w'.alloc o) := h.below ((Below.refl _ _).alloc (Nat.le_refl _) o)
set_option maxRecDepth 100000 in
set_option maxHeartbeats 2000000 in
theorem sample_any (w : World) : Calls Try.prog 32 #[] w (SamplePost w) := by
  go_enter Try.func32, Try.ntmps32
  go_wp2_with fail
  obtain ⟨W, hW⟩ : ∃ X, X = ((w.alloc (.cells #[.bool false, .slice none 0 0, .int .i64 0, .int .i64 0, .int .i64 0, .int .i64 0, .int .i64 0] 26)).alloc (.cells #[.int .i64 0, .int .i64 0, .int .i64 0, .int .i64 0, .int .i64 0, .int .i64 0] 28)).alloc (.cells #[.int .i64 0, .int .i64 1000, .int .i64 100, .int .i64 11000, .int .i64 300, .int .i64 35000] 59) := ⟨_, rfl⟩
  have HB : Box w.heap.size #[.bool false, .slice none 0 0, .int .i64 0, .int .i64 0, .int .i64 0, .int .i64 0, .int .i64 0] 26 W := by rw [hW]; exact ((Box.new _ _ _ rfl).old _).old _
  have HC : Box (w.heap.size + 1) #[.int .i64 0, .int .i64 0, .int .i64 0, .int .i64 0, .int .i64 0, .int .i64 0] 28 W := by rw [hW]; exact (Box.new _ _ _ (by simp)).old _
  have HM : Box (w.heap.size + 1 + 1) #[.int .i64 0, .int .i64 1000, .int .i64 100, .int .i64 11000, .int .i64 300, .int .i64 35000] 59 W := by rw [hW]; exact Box.new _ _ _ (by simp)
  have hbw : Below w.heap.size w W := by rw [hW]; exact (by repeat' (first | exact Below.refl _ _ | assumption | apply below_drewN | apply Below.drew | (refine Below.alloc ?_ ?_ _) | (refine Below.setCell ?_ ?_ _) | (simp; done) | (simp; omega) | omega))
  rw [← hW]
  clear hW
  refine (span_any _ _ _).mono ?_
  rintro e w1 ⟨rfl, hb1⟩
  have hbw1 := hbw.trans (hb1.mono hbw.size)
  have HB1 := HB.below hb1
  have HC1 := HC.below hb1
  have HM1 := HM.below hb1
  have hl0 : w.heap.size + 1 + 1 < w1.heap.size := HM1.lt
  clear HB HC HM hbw hb1
  go_wp2_with fail
  have G := Box.new (g := w1.heap.size) #[.bool false, .slice (some ⟨w.heap.size + 1 + 1, 0, none⟩) 3 3, .int .i64 10, .int .i64 0, .int .i64 0, .int .i64 0, .int .i64 20] 26 w1 rfl
  have HB2 := HB1.old (.cells #[.bool false, .slice (some ⟨w.heap.size + 1 + 1, 0, none⟩) 3 3, .int .i64 10, .int .i64 0, .int .i64 0, .int .i64 0, .int .i64 20] 26)
  have HC2 := HC1.old (.cells #[.bool false, .slice (some ⟨w.heap.size + 1 + 1, 0, none⟩) 3 3, .int .i64 10, .int .i64 0, .int .i64 0, .int .i64 0, .int .i64 20] 26)
  have HM2 := HM1.old (.cells #[.bool false, .slice (some ⟨w.heap.size + 1 + 1, 0, none⟩) 3 3, .int .i64 10, .int .i64 0, .int .i64 0, .int .i64 0, .int .i64 20] 26)
  have hbw2 := hbw1.alloc (by omega) (.cells #[.bool false, .slice (some ⟨w.heap.size + 1 + 1, 0, none⟩) 3 3, .int .i64 10, .int .i64 0, .int .i64 0, .int .i64 0, .int .i64 20] 26)
  obtain ⟨g, hg⟩ : ∃ g, g = w1.heap.size := ⟨_, rfl⟩
  obtain ⟨W2, hW2⟩ : ∃ X, X = w1.alloc (.cells #[.bool false, .slice (some ⟨w.heap.size + 1 + 1, 0, none⟩) 3 3, .int .i64 10, .int .i64 0, .int .i64 0, .int .i64 0, .int .i64 20] 26) := ⟨_, rfl⟩
  rw [← hW2] at G HB2 HC2 HM2 hbw2 ⊢
  rw [← hg] at G hl0 ⊢
  clear hg hW2 HB1 HC1 HM1 hbw1
  have gl := G.lt
  have s0 := G.cell 0 rfl
  have s1 := G.cell 1 rfl
  have s2 := G.cell 2 rfl
  have s3 := G.cell 3 rfl
  have s4 := G.cell 4 rfl
  have s5 := G.cell 5 rfl
  have s6 := G.cell 6 rfl
  have ql := HB2.lt
  have pl := HC2.lt
  have KB := Lib.hid HB2
  have KC := Lib.hid HC2
  have KM := Lib.hid HM2
  have n0 : g ≠ w.heap.size := by omega
  have n1 : g ≠ w.heap.size + 1 := by omega
  clear HB2 HC2 HM2 G
  have hCC : ∀ A B : World, Two w.heap.size (w.heap.size + 1) W2 A → Below A.heap.size A B → Two w.heap.size (w.heap.size + 1) W2 B := fun A B h1 h2 => h1.below h2
  refine wp_region_garb (Two w.heap.size (w.heap.size + 1) W2) (by kernel_rfl) ?_
  have hC0 : Two w.heap.size (w.heap.size + 1) W2 W2.drew := (Two.refl _ _ _).drew
  (refine wpAnyG_take (i := 0) hCC hC0 rfl (by kernel_rfl) (by kernel_rfl) (by kernel_rfl) (fun _ _ _ _ h => h) (by rfl) ?_; apply Exists.intro; refine ⟨fun w1 h1 K hK => ?_, ?_⟩; · (have f0 : ∀ W : Aft w1, W.val.cell? ⟨g, 0, none⟩ = some (.bool false) := fun W => Two.cell (h1.below W.below) s0 gl n0 n1; have f1 : ∀ W : Aft w1, W.val.cell? ⟨g, 1, none⟩ = some (.slice (some ⟨w.heap.size + 1 + 1, 0, none⟩) 3 3) := fun W => Two.cell (h1.below W.below) s1 gl n0 n1; have f2 : ∀ W : Aft w1, W.val.cell? ⟨g, 2, none⟩ = some (.int .i64 10) := fun W => Two.cell (h1.below W.below) s2 gl n0 n1; have f3 : ∀ W : Aft w1, W.val.cell? ⟨g, 3, none⟩ = some (.int .i64 0) := fun W => Two.cell (h1.below W.below) s3 gl n0 n1; have f4 : ∀ W : Aft w1, W.val.cell? ⟨g, 4, none⟩ = some (.int .i64 0) := fun W => Two.cell (h1.below W.below) s4 gl n0 n1; have f5 : ∀ W : Aft w1, W.val.cell? ⟨g, 5, none⟩ = some (.int .i64 0) := fun W => Two.cell (h1.below W.below) s5 gl n0 n1; have f6 : ∀ W : Aft w1, W.val.cell? ⟨g, 6, none⟩ = some (.int .i64 20) := fun W => Two.cell (h1.below W.below) s6 gl n0 n1;  go_big_quiet_op; first | exact hK | fail))
  (refine wpAnyG_take (i := 1) hCC hC0 rfl (by kernel_rfl) (by kernel_rfl) (by kernel_rfl) (fun _ _ _ _ h => h) (by rfl) ?_; apply Exists.intro; refine ⟨fun w1 h1 K hK => ?_, ?_⟩; · ( go_big_quiet_op; first | exact hK | exact ⟨_, fun W => aft_call (span_any _ _ _), hK⟩))
  (refine wpAnyG_take (i := 2) hCC hC0 rfl (by kernel_rfl) (by kernel_rfl) (by kernel_rfl) (fun _ _ _ _ h => h) (by rfl) ?_; apply Exists.intro; refine ⟨fun w1 h1 K hK => ?_, ?_⟩; · ( go_big_quiet_op; first | exact hK | exact ⟨_, fun W => aft_call (span_any _ _ _), hK⟩))
  (refine wpAnyG_take (i := 3) hCC hC0 rfl (by kernel_rfl) (by kernel_rfl) (by kernel_rfl) (fun _ _ _ _ h => h) (by rfl) ?_; apply Exists.intro; refine ⟨fun w1 h1 K hK => ?_, ?_⟩; · ( go_big_quiet_op; first | exact hK | exact ⟨_, fun W => aft_call (span_any _ _ _), hK⟩))
  (refine wpAnyG_take (i := 4) hCC hC0 rfl (by kernel_rfl) (by kernel_rfl) (by kernel_rfl) (fun _ _ _ _ h => h) (by rfl) ?_; apply Exists.intro; refine ⟨fun w1 h1 K hK => ?_, ?_⟩; · ( go_big_quiet_op; first | exact hK | exact ⟨_, fun W => aft_call (span_any _ _ _), hK⟩))
  (refine wpAnyG_take (i := 5) hCC hC0 rfl (by kernel_rfl) (by kernel_rfl) (by kernel_rfl) (fun _ _ _ _ h => h) (by rfl) ?_; apply Exists.intro; refine ⟨fun w1 h1 K hK => ?_, ?_⟩; · ( go_big_quiet_op; first | exact hK | exact ⟨_, fun W => aft_call (span_any _ _ _), hK⟩))
  (refine wpAnyG_two (i := 6) (k := 7) (by kernel_rfl) rfl rfl (by rfl) (by rfl) (fun wa hwa K hK => ?_) (fun wa hwa K hK => ?_))
  · go_simp
    refine hK _ _ ((hC0.below hwa).alloc _) ?_
    clear hK K
    have kb := ((KB.out.drew.below hwa).old (.cells #[.int .i64 10000, .int .i64 10010, .int .i64 9800, .int .i64 9800] 24))
    have kc := ((KC.out.drew.below hwa).old (.cells #[.int .i64 10000, .int .i64 10010, .int .i64 9800, .int .i64 9800] 24))
    have km := ((KM.out.drew.below hwa).old (.cells #[.int .i64 10000, .int .i64 10010, .int .i64 9800, .int .i64 9800] 24))
    have ks := Box.new (g := wa.heap.size) #[.int .i64 10000, .int .i64 10010, .int .i64 9800, .int .i64 9800] 24 wa rfl
    have kt := (hC0.below hwa).alloc (.cells #[.int .i64 10000, .int .i64 10010, .int .i64 9800, .int .i64 9800] 24)
    have kw : Below w.heap.size w (wa.alloc (.cells #[.int .i64 10000, .int .i64 10010, .int .i64 9800, .int .i64 9800] 24)) := ((below_drewN hbw2 1).trans (hwa.mono (below_drewN hbw2 1).size)).alloc (Nat.le_trans (below_drewN hbw2 1).size hwa.size) _
    have gs : w.heap.size + 1 + 1 < wa.heap.size := Nat.lt_of_lt_of_le KM.out.lt hwa.size
    obtain ⟨G, hG⟩ : ∃ G, G = wa.heap.size := ⟨_, rfl⟩
    rw [← hG] at ks gs ⊢
    clear hG
    (refine wpAnyG_one (i := 7) (by kernel_rfl) rfl (by rfl) (fun wb hwb K hK => ?_))
    refine wp_store_box (kb.below hwb) rfl rfl rfl rfl (by kernel_rfl) (by simp [Value.oneCell']) (fun wc hB1 ho => ?_); dsimp only [Act.put]
    refine hK _ _ ((kt.below hwb).onlyP ho) ?_
    clear hK K
    have kc1 := ho.box (kc.below hwb) (by omega)
    have km1 := ho.box (km.below hwb) (by omega)
    have ks1 := ho.box (ks.below hwb) (by omega)
    have kt1 := (kt.below hwb).onlyP ho
    have kw1 := (kw.trans (hwb.mono kw.size)).trans (ho.below (Nat.le_refl _))
    (refine wpAnyG_one (i := 8) (by kernel_rfl) rfl (by rfl) (fun wd hwd K hK => ?_))
    refine wp_store_box (kc1.below hwd) rfl rfl rfl rfl (by kernel_rfl) (by simp [Value.oneCell']) (fun we hB2 ho2 => ?_); dsimp only [Act.put]
    refine hK _ _ ((kt1.below hwd).onlyQ ho2) ?_
    clear hK K
    have kp2 := ho2.box (hB1.below hwd) (by omega)
    have km2 := ho2.box (km1.below hwd) (by omega)
    have ks2 := ho2.box (ks1.below hwd) (by omega)
    have kt2 := (kt1.below hwd).onlyQ ho2
    have kw2 := (kw1.trans (hwd.mono kw1.size)).trans (ho2.below (by omega))
    (refine wpAnyG_one (i := 9) (by kernel_rfl) rfl (by rfl) (fun wf hwf K hK => ?_))
    go_simp
    refine hK _ _ (kt2.below hwf) ?_
    clear hK K
    refine wpAnyG_done (by kernel_rfl) (fun wz hwz => ?_) _
    have zp := (kp2.below hwf).below hwz
    have zq := (hB2.below hwf).below hwz
    have zm := (km2.below hwf).below hwz
    have zs := (ks2.below hwf).below hwz
    have zw := (kw2.trans (hwf.mono kw2.size)).trans (hwz.mono (Nat.le_trans kw2.size hwf.size))
    clear kb kc km ks kt kw hB1 ho kc1 km1 ks1 kt1 kw1 hB2 ho2 kp2 km2 ks2 kt2 kw2
    have Z := Lib.hid (And.intro zm (And.intro zs (And.intro zw gs)))
    have y0 := zp.cell 0 rfl
    have y1 := zp.cell 1 rfl
    have y2 := zp.cell 2 rfl
    have y3 := zp.cell 3 rfl
    have y4 := zp.cell 4 rfl
    have y5 := zp.cell 5 rfl
    have y6 := zp.cell 6 rfl
    have x0 := zq.cell 0 rfl
    have x1 := zq.cell 1 rfl
    have x2 := zq.cell 2 rfl
    have x3 := zq.cell 3 rfl
    have x4 := zq.cell 4 rfl
    have x5 := zq.cell 5 rfl
    simp only [List.getElem_toArray, List.getElem_cons_zero, List.getElem_cons_succ] at y0 y1 y2 y3 y4 y5 y6 x0 x1 x2 x3 x4 x5
    clear zp zq zm zs zw gs
    go_wp2_with fail
    refine bodyPost_ret (v := .tuple #[exB.val (some ⟨w.heap.size + 1 + 1, 0, none⟩) 3, exX.val, .slice (some ⟨G, 0, none⟩) 2 2]) (by simp [results, Try.results32, go_sem, y0, y1, y2, y3, y4, y5, y6, x0, x1, x2, x3, x4, x5]) rfl ⟨w.heap.size + 1 + 1, G, rfl, Z.out.2.2.1, by omega, by have := Z.out.2.2.2; omega, ?_, ?_⟩
    · intro i hi
      have : i = 0 ∨ i = 1 ∨ i = 2 := by omega
      rcases this with rfl | rfl | rfl
      · exact ⟨_, _, rfl, Z.out.1.lt, Z.out.1.cell 0 rfl, Z.out.1.cell 1 rfl⟩
      · exact ⟨_, _, rfl, Z.out.1.lt, Z.out.1.cell 2 rfl, Z.out.1.cell 3 rfl⟩
      · exact ⟨_, _, rfl, Z.out.1.lt, Z.out.1.cell 4 rfl, Z.out.1.cell 5 rfl⟩
    · intro i hi
      have : i = 0 ∨ i = 1 := by omega
      rcases this with rfl | rfl
      · exact ⟨_, _, rfl, Z.out.2.1.lt, Z.out.2.1.cell 0 rfl, Z.out.2.1.cell 1 rfl⟩
      · exact ⟨_, _, rfl, Z.out.2.1.lt, Z.out.2.1.cell 2 rfl, Z.out.2.1.cell 3 rfl⟩
  · refine wp_store_box (KB.out.drew.below hwa) rfl rfl rfl rfl (by kernel_rfl) (by simp [Value.oneCell']) (fun wb hB1 ho => ?_); dsimp only [Act.put]
    refine hK _ _ ((hC0.below hwa).onlyP ho) ?_
    clear hK K
    have kc := ho.box (KC.out.drew.below hwa) (by omega)
    have km := ho.box (KM.out.drew.below hwa) (by omega)
    have kt := (hC0.below hwa).onlyP ho
    have kw : Below w.heap.size w wb := ((below_drewN hbw2 1).trans (hwa.mono (below_drewN hbw2 1).size)).trans (ho.below (Nat.le_refl _))
    have gs0 : w.heap.size + 1 + 1 < wb.heap.size := km.lt
    (refine wpAnyG_two (i := 6) (k := 8) (by kernel_rfl) rfl rfl (by rfl) (by rfl) (fun wc hwc K hK => ?_) (fun wc hwc K hK => ?_))
    · go_simp
      refine hK _ _ ((kt.below hwc).alloc _) ?_
      clear hK K
      have kb1 := (hB1.below hwc).old (.cells #[.int .i64 10000, .int .i64 10010, .int .i64 9800, .int .i64 9800] 24)
      have kc1 := (kc.below hwc).old (.cells #[.int .i64 10000, .int .i64 10010, .int .i64 9800, .int .i64 9800] 24)
      have km1 := (km.below hwc).old (.cells #[.int .i64 10000, .int .i64 10010, .int .i64 9800, .int .i64 9800] 24)
      have ks1 := Box.new (g := wc.heap.size) #[.int .i64 10000, .int .i64 10010, .int .i64 9800, .int .i64 9800] 24 wc rfl
      have kt1 := (kt.below hwc).alloc (.cells #[.int .i64 10000, .int .i64 10010, .int .i64 9800, .int .i64 9800] 24)
      have kw1 := (kw.trans (hwc.mono kw.size)).alloc (Nat.le_trans kw.size hwc.size) (.cells #[.int .i64 10000, .int .i64 10010, .int .i64 9800, .int .i64 9800] 24)
      have gs : w.heap.size + 1 + 1 < wc.heap.size := Nat.lt_of_lt_of_le gs0 hwc.size
      obtain ⟨G, hG⟩ : ∃ G, G = wc.heap.size := ⟨_, rfl⟩
      rw [← hG] at ks1 gs ⊢
      clear hG
      (refine wpAnyG_one (i := 8) (by kernel_rfl) rfl (by rfl) (fun wd hwd K hK => ?_))
      refine wp_store_box (kc1.below hwd) rfl rfl rfl rfl (by kernel_rfl) (by simp [Value.oneCell']) (fun we hB2 ho2 => ?_); dsimp only [Act.put]
      refine hK _ _ ((kt1.below hwd).onlyQ ho2) ?_
      clear hK K
      have kp2 := ho2.box (kb1.below hwd) (by omega)
      have km2 := ho2.box (km1.below hwd) (by omega)
      have ks2 := ho2.box (ks1.below hwd) (by omega)
      have kt2 := (kt1.below hwd).onlyQ ho2
      have kw2 := (kw1.trans (hwd.mono kw1.size)).trans (ho2.below (by omega))
      (refine wpAnyG_one (i := 9) (by kernel_rfl) rfl (by rfl) (fun wf hwf K hK => ?_))
      go_simp
      refine hK _ _ (kt2.below hwf) ?_
      clear hK K
      refine wpAnyG_done (by kernel_rfl) (fun wz hwz => ?_) _
      have zp := (kp2.below hwf).below hwz
      have zq := (hB2.below hwf).below hwz
      have zm := (km2.below hwf).below hwz
      have zs := (ks2.below hwf).below hwz
      have zw := (kw2.trans (hwf.mono kw2.size)).trans (hwz.mono (Nat.le_trans kw2.size hwf.size))
      clear kc km kt kw gs0 kb1 kc1 km1 ks1 kt1 kw1 hB1 ho hB2 ho2 kp2 km2 ks2 kt2 kw2
      have Z := Lib.hid (And.intro zm (And.intro zs (And.intro zw gs)))
      have y0 := zp.cell 0 rfl
      have y1 := zp.cell 1 rfl
      have y2 := zp.cell 2 rfl
      have y3 := zp.cell 3 rfl
      have y4 := zp.cell 4 rfl
      have y5 := zp.cell 5 rfl
      have y6 := zp.cell 6 rfl
      have x0 := zq.cell 0 rfl
      have x1 := zq.cell 1 rfl
      have x2 := zq.cell 2 rfl
      have x3 := zq.cell 3 rfl
      have x4 := zq.cell 4 rfl
      have x5 := zq.cell 5 rfl
      simp only [List.getElem_toArray, List.getElem_cons_zero, List.getElem_cons_succ] at y0 y1 y2 y3 y4 y5 y6 x0 x1 x2 x3 x4 x5
      clear zp zq zm zs zw gs
      go_wp2_with fail
      refine bodyPost_ret (v := .tuple #[exB.val (some ⟨w.heap.size + 1 + 1, 0, none⟩) 3, exX.val, .slice (some ⟨G, 0, none⟩) 2 2]) (by simp [results, Try.results32, go_sem, y0, y1, y2, y3, y4, y5, y6, x0, x1, x2, x3, x4, x5]) rfl ⟨w.heap.size + 1 + 1, G, rfl, Z.out.2.2.1, by omega, by have := Z.out.2.2.2; omega, ?_, ?_⟩
      · intro i hi
        have : i = 0 ∨ i = 1 ∨ i = 2 := by omega
        rcases this with rfl | rfl | rfl
        · exact ⟨_, _, rfl, Z.out.1.lt, Z.out.1.cell 0 rfl, Z.out.1.cell 1 rfl⟩
        · exact ⟨_, _, rfl, Z.out.1.lt, Z.out.1.cell 2 rfl, Z.out.1.cell 3 rfl⟩
        · exact ⟨_, _, rfl, Z.out.1.lt, Z.out.1.cell 4 rfl, Z.out.1.cell 5 rfl⟩
      · intro i hi
        have : i = 0 ∨ i = 1 := by omega
        rcases this with rfl | rfl
        · exact ⟨_, _, rfl, Z.out.2.1.lt, Z.out.2.1.cell 0 rfl, Z.out.2.1.cell 1 rfl⟩
        · exact ⟨_, _, rfl, Z.out.2.1.lt, Z.out.2.1.cell 2 rfl, Z.out.2.1.cell 3 rfl⟩
    · refine wp_store_box (kc.below hwc) rfl rfl rfl rfl (by kernel_rfl) (by simp [Value.oneCell']) (fun wd hB2 ho2 => ?_); dsimp only [Act.put]
      refine hK _ _ ((kt.below hwc).onlyQ ho2) ?_
      clear hK K
      have kp1 := ho2.box (hB1.below hwc) (by omega)
      have km1 := ho2.box (km.below hwc) (by omega)
      have kt1 := (kt.below hwc).onlyQ ho2
      have kw1 := (kw.trans (hwc.mono kw.size)).trans (ho2.below (by omega))
      have gs1 : w.heap.size + 1 + 1 < wd.heap.size := km1.lt
      (refine wpAnyG_one (i := 6) (by kernel_rfl) rfl (by rfl) (fun we hwe K hK => ?_))
      go_simp
      refine hK _ _ ((kt1.below hwe).alloc _) ?_
      clear hK K
      have kp2 := (kp1.below hwe).old (.cells #[.int .i64 10000, .int .i64 10010, .int .i64 9800, .int .i64 9800] 24)
      have kq2 := (hB2.below hwe).old (.cells #[.int .i64 10000, .int .i64 10010, .int .i64 9800, .int .i64 9800] 24)
      have km2 := (km1.below hwe).old (.cells #[.int .i64 10000, .int .i64 10010, .int .i64 9800, .int .i64 9800] 24)
      have ks2 := Box.new (g := we.heap.size) #[.int .i64 10000, .int .i64 10010, .int .i64 9800, .int .i64 9800] 24 we rfl
      have kt2 := (kt1.below hwe).alloc (.cells #[.int .i64 10000, .int .i64 10010, .int .i64 9800, .int .i64 9800] 24)
      have kw2 := (kw1.trans (hwe.mono kw1.size)).alloc (Nat.le_trans kw1.size hwe.size) (.cells #[.int .i64 10000, .int .i64 10010, .int .i64 9800, .int .i64 9800] 24)
      have gs : w.heap.size + 1 + 1 < we.heap.size := Nat.lt_of_lt_of_le gs1 hwe.size
      obtain ⟨G, hG⟩ : ∃ G, G = we.heap.size := ⟨_, rfl⟩
      rw [← hG] at ks2 gs ⊢
      clear hG
      (refine wpAnyG_one (i := 9) (by kernel_rfl) rfl (by rfl) (fun wf hwf K hK => ?_))
      go_simp
      refine hK _ _ (kt2.below hwf) ?_
      clear hK K
      refine wpAnyG_done (by kernel_rfl) (fun wz hwz => ?_) _
      have zp := (kp2.below hwf).below hwz
      have zq := (kq2.below hwf).below hwz
      have zm := (km2.below hwf).below hwz
      have zs := (ks2.below hwf).below hwz
      have zw := (kw2.trans (hwf.mono kw2.size)).trans (hwz.mono (Nat.le_trans kw2.size hwf.size))
      clear kc km kt kw gs0 gs1 kp1 km1 kt1 kw1 hB1 ho hB2 ho2 kp2 kq2 km2 ks2 kt2 kw2
      have Z := Lib.hid (And.intro zm (And.intro zs (And.intro zw gs)))
      have y0 := zp.cell 0 rfl
      have y1 := zp.cell 1 rfl
      have y2 := zp.cell 2 rfl
      have y3 := zp.cell 3 rfl
      have y4 := zp.cell 4 rfl
      have y5 := zp.cell 5 rfl
      have y6 := zp.cell 6 rfl
      have x0 := zq.cell 0 rfl
      have x1 := zq.cell 1 rfl
      have x2 := zq.cell 2 rfl
      have x3 := zq.cell 3 rfl
      have x4 := zq.cell 4 rfl
      have x5 := zq.cell 5 rfl
      simp only [List.getElem_toArray, List.getElem_cons_zero, List.getElem_cons_succ] at y0 y1 y2 y3 y4 y5 y6 x0 x1 x2 x3 x4 x5
      clear zp zq zm zs zw gs
      go_wp2_with fail
      refine bodyPost_ret (v := .tuple #[exB.val (some ⟨w.heap.size + 1 + 1, 0, none⟩) 3, exX.val, .slice (some ⟨G, 0, none⟩) 2 2]) (by simp [results, Try.results32, go_sem, y0, y1, y2, y3, y4, y5, y6, x0, x1, x2, x3, x4, x5]) rfl ⟨w.heap.size + 1 + 1, G, rfl, Z.out.2.2.1, by omega, by have := Z.out.2.2.2; omega, ?_, ?_⟩
      · intro i hi
        have : i = 0 ∨ i = 1 ∨ i = 2 := by omega
        rcases this with rfl | rfl | rfl
        · exact ⟨_, _, rfl, Z.out.1.lt, Z.out.1.cell 0 rfl, Z.out.1.cell 1 rfl⟩
        · exact ⟨_, _, rfl, Z.out.1.lt, Z.out.1.cell 2 rfl, Z.out.1.cell 3 rfl⟩
        · exact ⟨_, _, rfl, Z.out.1.lt, Z.out.1.cell 4 rfl, Z.out.1.cell 5 rfl⟩
      · intro i hi
        have : i = 0 ∨ i = 1 := by omega
        rcases this with rfl | rfl
        · exact ⟨_, _, rfl, Z.out.2.1.lt, Z.out.2.1.cell 0 rfl, Z.out.2.1.cell 1 rfl⟩
        · exact ⟨_, _, rfl, Z.out.2.1.lt, Z.out.2.1.cell 2 rfl, Z.out.2.1.cell 3 rfl⟩
end Go.Proofs.Ythoefcpeagclbaa
