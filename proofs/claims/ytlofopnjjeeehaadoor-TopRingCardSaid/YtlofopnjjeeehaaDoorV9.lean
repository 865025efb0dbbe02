/- Travel: Fault and Error. -/
import Derived.Test.YtlofopnjjeeehaaDoorV8
namespace Go.Proofs.YtlofopnjjeeehaaDoor
open Go.RowKit
def Rnd.fault (r : Rnd) (off i : Int) : Tell := r.tell off i r.nb (1 + i.toNat) true
def Rnd.error (r : Rnd) (off i : Int) : Tell := r.tell off i r.nm (7 + i.toNat) false
set_option maxHeartbeats 400000 in
theorem benchW_any (n : Int) (w : World) :
    Calls Tryd.prog 31 #[.int .i64 n] w fun e w' => e = .returned (.int .i64 (wrap64 (1 + n))) ∧ Below w.heap.size w w' := by
  go_enter Tryd.func31, Tryd.ntmps31
  go_wp2
  go_ret
  exact ⟨rfl, Below.refl _ _⟩
set_option maxHeartbeats 400000 in
theorem meterW_any (n : Int) (w : World) :
    Calls Tryd.prog 19 #[.int .i64 n] w fun e w' => e = .returned (.int .i64 (wrap64 (7 + n))) ∧ Below w.heap.size w w' := by
  go_enter Tryd.func19, Tryd.ntmps19
  go_wp2
  go_ret
  exact ⟨rfl, Below.refl _ _⟩

set_option maxRecDepth 100000 in
set_option maxHeartbeats 8000000 in
theorem error_any (r : Rnd) (oa : Option Addr) (ca : Nat) (off i : Int) (w : World) (hn : r.n ≤ 1000000) (hT : TabAt 1 Lib.deBruijn64tab w) (hw1 : 1 < w.heap.size) (hA : TrpsAt w oa r.n r.t) :
    Calls Tryd.prog 9 #[r.val oa ca, .int .i64 off, .int .i64 i] w fun e w' => e = .returned (r.error off i).val ∧ Below w.heap.size w w' := by
  have HASK := Lib.hid (fun (W : World) (h : Below w.heap.size w W) => ask44_any r oa ca off i r.nm (wrap64 (7 + i)) (7 + i.toNat) W hn (tab_below hT hw1 h) (Nat.lt_of_lt_of_le hw1 h.size) (hA.mono h) (fun hv => by have := Rnd.valid_head hv; omega) (fun hv hi => by
    have := Rnd.valid_head hv
    simp only [withinB, decide_eq_true_eq] at hi
    exact ⟨by unfold wrap64; omega, by omega⟩))
  have HDEF := Lib.hid (show r.error off i = r.tell off i r.nm (7 + i.toNat) false from rfl)
  clear hA hT hw1
  obtain ⟨T, hTT⟩ : ∃ T, T = r.tell off i r.nm (7 + i.toNat) false := ⟨_, rfl⟩
  rw [← hTT] at HASK HDEF
  clear hTT
  obtain ⟨ta, tb, te⟩ := T
  go_enter Tryd.func9, Tryd.ntmps9
  go_wp2_with fail
  have hb0 := (below_alloc1 w (.cells #[.int .i64 r.nb, .int .i64 r.nm, .int .i64 r.most, .slice oa r.n ca] 29)).alloc (by simp) (.cells #[.int .i64 0, .int .i64 0] 35)
  have hB := (Box.new (g := w.heap.size) #[.int .i64 r.nb, .int .i64 r.nm, .int .i64 r.most, .slice oa r.n ca] 29 w rfl).old (.cells #[.int .i64 0, .int .i64 0] 35)
  have hS := Box.new (g := w.heap.size + 1) #[.int .i64 0, .int .i64 0] 35 (w.alloc (.cells #[.int .i64 r.nb, .int .i64 r.nm, .int .i64 r.most, .slice oa r.n ca] 29)) (by simp)
  obtain ⟨W, hW⟩ : ∃ X, X = (w.alloc (.cells #[.int .i64 r.nb, .int .i64 r.nm, .int .i64 r.most, .slice oa r.n ca] 29)).alloc (.cells #[.int .i64 0, .int .i64 0] 35) := ⟨_, rfl⟩
  rw [← hW] at hb0 hB hS ⊢
  clear hW
  obtain ⟨gs, hgs⟩ : ∃ G, G = w.heap.size + 1 := ⟨_, rfl⟩
  rw [← hgs] at hS ⊢
  obtain ⟨gr, hgr⟩ : ∃ G, G = w.heap.size := ⟨_, rfl⟩
  rw [← hgr] at hB ⊢
  have HGS := Lib.hid (show w.heap.size ≤ gs by omega)
  have HGR := Lib.hid (show gr ≠ gs by omega)
  clear hgr hgs
  have HB := Lib.hid hB
  have HS := Lib.hid hS
  have HL := Lib.hid hb0
  clear hB hS hb0
  have hP0 : ∀ A B : World, Below W.heap.size W A → Below A.heap.size A B → Below W.heap.size W B := fun A B h1 h2 => h1.trans (h2.mono h1.size)
  have hP1 : ∀ A B : World, But gs W A → Below A.heap.size A B → But gs W B := fun _ _ h1 h2 => h1.trans_below h2
  have hP01 : ∀ A : World, Below W.heap.size W A → But gs W A := fun _ h1 => But.of_below h1
  have hC0 : Below W.heap.size W W.drew := (Below.refl _ _).drew
  refine wp_region_phase 10 (fun A => Below W.heap.size W A) (fun A => But gs W A) (by kernel_rfl) ?_

  (refine wpAnyP_take1 (i := 0) hP0 hP1 hP01 hC0 (by decide) rfl (by kernel_rfl) (by kernel_rfl) (by kernel_rfl) (fun _ _ _ _ h => h) (by rfl) ?_; apply Exists.intro; refine ⟨fun w1 h1 K hK => ?_, ?_⟩; · (have q0 : ∀ W : Aft w1, W.val.cell? ⟨gr, 0, none⟩ = some (.int .i64 r.nb) := fun W => ((hP1 _ _ h1 W.below).box HB.out HGR.out).cell 0 rfl; have q1 : ∀ W : Aft w1, W.val.cell? ⟨gr, 1, none⟩ = some (.int .i64 r.nm) := fun W => ((hP1 _ _ h1 W.below).box HB.out HGR.out).cell 1 rfl; have q2 : ∀ W : Aft w1, W.val.cell? ⟨gr, 2, none⟩ = some (.int .i64 r.most) := fun W => ((hP1 _ _ h1 W.below).box HB.out HGR.out).cell 2 rfl; have q3 : ∀ W : Aft w1, W.val.cell? ⟨gr, 3, none⟩ = some (.slice oa r.n ca) := fun W => ((hP1 _ _ h1 W.below).box HB.out HGR.out).cell 3 rfl; have q4 : ∀ W : Aft w1, gr < W.val.heap.size := fun W => ((hP1 _ _ h1 W.below).box HB.out HGR.out).lt; go_big_quiet_op; first | exact hK | fail))
  (refine wpAnyP_take1 (i := 1) hP0 hP1 hP01 hC0 (by decide) rfl (by kernel_rfl) (by kernel_rfl) (by kernel_rfl) (fun _ _ _ _ h => h) (by rfl) ?_; apply Exists.intro; refine ⟨fun w1 h1 K hK => ?_, ?_⟩; · ( go_big_quiet_op; first | exact hK | fail))
  (refine wpAnyP_take1 (i := 2) hP0 hP1 hP01 hC0 (by decide) rfl (by kernel_rfl) (by kernel_rfl) (by kernel_rfl) (fun _ _ _ _ h => h) (by rfl) ?_; apply Exists.intro; refine ⟨fun w1 h1 K hK => ?_, ?_⟩; · ( go_big_quiet_op; first | exact hK | fail))
  (refine wpAnyP_take1 (i := 3) hP0 hP1 hP01 hC0 (by decide) rfl (by kernel_rfl) (by kernel_rfl) (by kernel_rfl) (fun _ _ _ _ h => h) (by rfl) ?_; apply Exists.intro; refine ⟨fun w1 h1 K hK => ?_, ?_⟩; · (have q4 : ∀ W : Aft w1, gr < W.val.heap.size := fun W => ((hP1 _ _ h1 W.below).box HB.out HGR.out).lt; go_big_quiet_op; first | exact hK | fail))
  (refine wpAnyP_take1 (i := 4) hP0 hP1 hP01 hC0 (by decide) rfl (by kernel_rfl) (by kernel_rfl) (by kernel_rfl) (fun _ _ _ _ h => h) (by rfl) ?_; apply Exists.intro; refine ⟨fun w1 h1 K hK => ?_, ?_⟩; · (have q0 : ∀ W : Aft w1, W.val.cell? ⟨gr, 1, none⟩ = some (.int .i64 r.nm) := fun W => ((hP1 _ _ h1 W.below).box HB.out HGR.out).cell 1 rfl;  go_big_quiet_op; first | exact hK | fail))
  (refine wpAnyP_take1 (i := 5) hP0 hP1 hP01 hC0 (by decide) rfl (by kernel_rfl) (by kernel_rfl) (by kernel_rfl) (fun _ _ _ _ h => h) (by rfl) ?_; apply Exists.intro; refine ⟨fun w1 h1 K hK => ?_, ?_⟩; · ( go_big_quiet_op; first | exact hK | fail))
  (refine wpAnyP_take1 (i := 6) hP0 hP1 hP01 hC0 (by decide) rfl (by kernel_rfl) (by kernel_rfl) (by kernel_rfl) (fun _ _ _ _ h => h) (by rfl) ?_; apply Exists.intro; refine ⟨fun w1 h1 K hK => ?_, ?_⟩; · ( go_big_quiet_op; first | exact hK | exact ⟨_, fun W => aft_call (meterW_any _ _), hK⟩))
  (refine wpAnyP_take0 (i := 7) hP0 hP1 hC0 (by decide) (by rfl) rfl (by kernel_rfl) rfl (by kernel_rfl) (by kernel_rfl) (by kernel_rfl) (fun _ _ _ _ h => h) (by rfl) ?_; apply Exists.intro; refine ⟨fun w1 h1 K hK => ?_, ?_⟩; · ( go_big_quiet_op; first | exact hK | exact ⟨_, fun W => aft_call (HASK.out _ (HL.out.trans ((hP0 _ _ h1 W.below).mono HL.out.size))), hK⟩))
  (refine wpAnyP_take0 (i := 8) hP0 hP1 hC0 (by decide) (by rfl) rfl (by kernel_rfl) rfl (by kernel_rfl) (by kernel_rfl) (by kernel_rfl) (fun _ _ _ _ h => h) (by rfl) ?_; apply Exists.intro; refine ⟨fun w1 h1 K hK => ?_, ?_⟩; · ( go_big_quiet_op; first | exact hK | fail))
  (refine wpAnyP_take1 (i := 9) hP0 hP1 hP01 hC0 (by decide) rfl (by kernel_rfl) (by kernel_rfl) (by kernel_rfl) (fun _ _ _ _ h => h) (by rfl) ?_; apply Exists.intro; refine ⟨fun w1 h1 K hK => ?_, ?_⟩; · ( go_big_quiet_op; first | exact hK | fail))
  (refine wpAnyP_one (i := 10) (by kernel_rfl) rfl (by rfl) (fun wa hwa K hK => ?_))
  have hA := hP0 _ _ hC0 hwa
  refine wp_store_box (HS.out.below hA) rfl rfl rfl rfl (by kernel_rfl) (by simp [Value.oneCell']) (fun wb zs ho => ?_); dsimp only [Act.put]
  have hB9 : But gs W wb := (But.of_below hA).trans ⟨ho.os, ho.tape, ho.output, Nat.le_of_eq ho.size.symm, fun k9 _ hne => ho.block k9 hne⟩
  refine hK _ _ hB9 ?_
  clear hK K
  (refine wpAnyP_one (i := 11) (by kernel_rfl) rfl (by rfl) (fun wc hwc K hK => ?_))
  go_simp
  refine hK _ _ (hB9.trans_below hwc) ?_
  clear hK K
  refine wpAnyP_done (by kernel_rfl) (fun we hwe => ?_) _
  have HZ := Lib.hid ((zs.below hwc).below hwe)
  have HZB := Lib.hid (((hB9.trans_below hwc).trans_below hwe).below HGS.out HL.out HL.out.size)
  clear hP0 hP1 hP01 hC0 hwa hA zs ho hB9 hwc hwe
  go_wp2_with fail
  refine bodyPost_ret (res33 rfl _ _ gs ta tb te rfl rfl HZ.out) rfl ⟨by rw [HDEF.out], HZB.out⟩
end Go.Proofs.YtlofopnjjeeehaaDoor
