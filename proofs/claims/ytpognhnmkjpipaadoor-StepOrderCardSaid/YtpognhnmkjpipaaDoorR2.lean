/- The document's side: Left, what of a step's flow the leaks can be. -/
import Derived.Test.YtpognhnmkjpipaaDoorR1
import Derived.Test.YtpognhnmkjpipaaDoorPhase
namespace Go.Proofs.YtpognhnmkjpipaaDoor
open Go.RowKit
/-- the boxes of Left -/
structure LI (t : Tst) (s : Stp) (oa : Option Addr) (ca : Nat) (ob : Option Addr) (cb : Nat) (w : World) (k : Nat) (W : World) : Prop where
  low : Below w.heap.size w W
  hT : TB t oa ca ob cb w.heap.size W
  hS : Box (w.heap.size + 1) #[.int .i64 s.shut, .int .i64 s.flow.lo, .int .i64 s.flow.hi] 49 W
  hR : Box (w.heap.size + 1 + 1) #[.int .i64 0, .int .i64 0] 37 W
  hO : Box (w.heap.size + 1 + 1 + 1) #[.int .i64 (leftK t.u s.flow s.shut.toNat k).lo, .int .i64 (leftK t.u s.flow s.shut.toNat k).hi] 37 W
set_option maxRecDepth 100000 in
set_option maxHeartbeats 4000000 in
theorem left_any (t : Tst) (s : Stp) (oa : Option Addr) (ca : Nat) (ob : Option Addr) (cb : Nat) (w : World) (hn : t.n ≤ 10) (hu : ∀ i, i < t.n → litB (t.u i) = true) (hf : litB s.flow = true) (hs0 : 0 ≤ s.shut) (hs1 : s.shut.toNat < 1024) (hU : SpnsAt w oa t.n t.u) :
    Calls Tryd.prog 49 #[t.val oa ca ob cb, s.val] w fun e w' => e = .returned (leftK t.u s.flow s.shut.toNat t.n).val ∧ Below w.heap.size w w' := by
  have HU := Lib.hid hU
  have HL := Lib.hid hu
  have HF := Lib.hid hf
  clear hU hu hf
  go_enter Tryd.func49, Tryd.ntmps49
  go_wp2_with fail
  have hL0 : LI t s oa ca ob cb w 0 ((((w.alloc (.cells #[.slice oa t.n ca, .int .i64 t.leaks, .int .i64 t.least, .slice ob t.m cb] 25)).alloc (.cells #[.int .i64 s.shut, .int .i64 s.flow.lo, .int .i64 s.flow.hi] 49)).alloc (.cells #[.int .i64 0, .int .i64 0] 37)).alloc (.cells #[.int .i64 s.flow.lo, .int .i64 s.flow.hi] 37)) := ⟨(by repeat' (first | exact Below.refl _ _ | assumption | apply below_drewN | apply Below.drew | (refine Below.alloc ?_ ?_ _) | (refine Below.setCell ?_ ?_ _) | (simp; done) | (simp; omega) | omega)), (((Box.new _ 25 w rfl).old _).old _).old _, ((Box.new _ 49 _ (by simp)).old _).old _, (Box.new _ 37 _ (by simp)).old _, Box.new _ 37 _ (by simp)⟩
  obtain ⟨W0, hW0⟩ : ∃ X, X = ((((w.alloc (.cells #[.slice oa t.n ca, .int .i64 t.leaks, .int .i64 t.least, .slice ob t.m cb] 25)).alloc (.cells #[.int .i64 s.shut, .int .i64 s.flow.lo, .int .i64 s.flow.hi] 49)).alloc (.cells #[.int .i64 0, .int .i64 0] 37)).alloc (.cells #[.int .i64 s.flow.lo, .int .i64 s.flow.hi] 37)) := ⟨_, rfl⟩
  rw [← hW0] at hL0 ⊢
  clear hW0
  go_loopw [6] (fun v6 wr => ∃ k : Nat, k ≤ t.n ∧ v6 = .int .i64 k ∧ LI t s oa ca ob cb w k wr) (fun i _ => t.n - (intOf i).toNat)
  case atStart => exact ⟨0, Nat.zero_le _, rfl, hL0⟩
  case round =>
    obtain ⟨k, hk, rfl, hL⟩ := hrel
    have HI := Lib.hid hL
    clear hL hL0
    obtain ⟨c0, c1, c2, c3, c4⟩ := TB.cells HI.out.hT
    have s0 := HI.out.hS.cell 0 (v := .int .i64 s.shut) rfl
    have s1 := HI.out.hS.lt
    by_cases hlt : k < t.n
    · have hd : decide (k < t.n) = true := by simpa using hlt
      obtain ⟨b, off, rfl, hlt0, d0, d1⟩ := (HU.out.mono HI.out.low) k hlt
      obtain ⟨x, hx⟩ : ∃ x : Nat, x = s.shut.toNat := ⟨_, rfl⟩
      have hsx : s.shut = (x : Int) := by omega
      rw [hsx] at s0
      have HX := Lib.hid hx
      have HN : x < 1024 := by omega
      clear hsx hx hs1
      go_wp2_with fail
      refine (has_any x k _ (by omega) (by omega)).mono ?_
      rintro e w9 ⟨rfl, rfl⟩
      cases hh : hasB x k
      · have E := Lib.hid (show leftK t.u s.flow s.shut.toNat (k + 1) = ⟨(leftK t.u s.flow s.shut.toNat k).lo - (t.u k).hi, (leftK t.u s.flow s.shut.toNat k).hi - (t.u k).lo⟩ by rw [HX.out] at hh; show (if hasB _ k then _ else _) = _; rw [hh]; rfl)
        have hbd := leftK_bd (x := s.shut.toNat) HF.out HL.out hk
        have hub := HL.out k hlt
        simp only [litB, spanB, decide_eq_true_eq] at hub
        have ZO := HI.out.hO
        have ZT := HI.out.hT
        obtain ⟨q, hq⟩ : ∃ q, q = leftK t.u s.flow s.shut.toNat k := ⟨_, rfl⟩
        rw [← hq] at E hbd ZO
        clear hq hh
        go_upto_region 6 with fail
        have hP0 : ∀ A B : World, Below w9.heap.size w9 A → Below A.heap.size A B → Below w9.heap.size w9 B := fun A B h1 h2 => h1.trans (h2.mono h1.size)
        have hP1 : ∀ A B : World, True → Below A.heap.size A B → True := fun _ _ _ _ => trivial
        have hC0 : Below w9.heap.size w9 w9.drew := (Below.refl _ _).drew
        refine wp_region_phase 19 (Below w9.heap.size w9) (fun _ => True) (by kernel_rfl) ?_
        (refine wpAnyP_take0 (i := 0) hP0 hP1 hC0 (by decide) (by rfl) rfl (by kernel_rfl) rfl (by kernel_rfl) (by kernel_rfl) (by kernel_rfl) (fun _ _ _ _ h => h) (by rfl) ?_; apply Exists.intro; refine ⟨fun w1 h1 K hK => ?_, ?_⟩; · ( go_big_quiet_op; first | exact hK | fail))
        (refine wpAnyP_take0 (i := 1) hP0 hP1 hC0 (by decide) (by rfl) rfl (by kernel_rfl) rfl (by kernel_rfl) (by kernel_rfl) (by kernel_rfl) (fun _ _ _ _ h => h) (by rfl) ?_; apply Exists.intro; refine ⟨fun w1 h1 K hK => ?_, ?_⟩; · (have f0 : ∀ W : Aft w1, W.val.cell? ⟨w.heap.size + 1 + 1 + 1, 0, none⟩ = some (.int .i64 q.lo) := fun W => (ZO.below (hP0 _ _ h1 W.below)).cell 0 rfl; go_big_quiet_op; first | exact hK | fail))
        (refine wpAnyP_take0 (i := 2) hP0 hP1 hC0 (by decide) (by rfl) rfl (by kernel_rfl) rfl (by kernel_rfl) (by kernel_rfl) (by kernel_rfl) (fun _ _ _ _ h => h) (by rfl) ?_; apply Exists.intro; refine ⟨fun w1 h1 K hK => ?_, ?_⟩; · ( go_big_quiet_op; first | exact hK | fail))
        (refine wpAnyP_take0 (i := 3) hP0 hP1 hC0 (by decide) (by rfl) rfl (by kernel_rfl) rfl (by kernel_rfl) (by kernel_rfl) (by kernel_rfl) (fun _ _ _ _ h => h) (by rfl) ?_; apply Exists.intro; refine ⟨fun w1 h1 K hK => ?_, ?_⟩; · (have f0 : ∀ W : Aft w1, W.val.cell? ⟨w.heap.size, 0, none⟩ = some (.slice (some ⟨b, off, none⟩) t.n ca) := fun W => (ZT.below (hP0 _ _ h1 W.below)).cell 0 rfl; go_big_quiet_op; first | exact hK | fail))
        (refine wpAnyP_take0 (i := 4) hP0 hP1 hC0 (by decide) (by rfl) rfl (by kernel_rfl) rfl (by kernel_rfl) (by kernel_rfl) (by kernel_rfl) (fun _ _ _ _ h => h) (by rfl) ?_; apply Exists.intro; refine ⟨fun w1 h1 K hK => ?_, ?_⟩; · ( go_big_quiet_op; first | exact hK | fail))
        (refine wpAnyP_take0 (i := 5) hP0 hP1 hC0 (by decide) (by rfl) rfl (by kernel_rfl) rfl (by kernel_rfl) (by kernel_rfl) (by kernel_rfl) (fun _ _ _ _ h => h) (by rfl) ?_; apply Exists.intro; refine ⟨fun w1 h1 K hK => ?_, ?_⟩; · ( go_big_quiet_op; first | exact hK | fail))
        (refine wpAnyP_take0 (i := 6) hP0 hP1 hC0 (by decide) (by rfl) rfl (by kernel_rfl) rfl (by kernel_rfl) (by kernel_rfl) (by kernel_rfl) (fun _ _ _ _ h => h) (by rfl) ?_; apply Exists.intro; refine ⟨fun w1 h1 K hK => ?_, ?_⟩; · ( go_big_quiet_op; first | exact hK | fail))
        (refine wpAnyP_take0 (i := 7) hP0 hP1 hC0 (by decide) (by rfl) rfl (by kernel_rfl) rfl (by kernel_rfl) (by kernel_rfl) (by kernel_rfl) (fun _ _ _ _ h => h) (by rfl) ?_; apply Exists.intro; refine ⟨fun w1 h1 K hK => ?_, ?_⟩; · (have f0 : ∀ W : Aft w1, W.val.cell? ⟨b, off + k * 2 + 1, none⟩ = some (.int .i64 (t.u k).hi) := fun W => ((hP0 _ _ h1 W.below).cell (p := ⟨b, off + k * 2 + 1, none⟩) hlt0).trans d1; go_big_quiet_op; first | exact hK | fail))
        (refine wpAnyP_take0 (i := 8) hP0 hP1 hC0 (by decide) (by rfl) rfl (by kernel_rfl) rfl (by kernel_rfl) (by kernel_rfl) (by kernel_rfl) (fun _ _ _ _ h => h) (by rfl) ?_; apply Exists.intro; refine ⟨fun w1 h1 K hK => ?_, ?_⟩; · ( go_big_quiet_op; first | exact hK | fail))
        (refine wpAnyP_take0 (i := 9) hP0 hP1 hC0 (by decide) (by rfl) rfl (by kernel_rfl) rfl (by kernel_rfl) (by kernel_rfl) (by kernel_rfl) (fun _ _ _ _ h => h) (by rfl) ?_; apply Exists.intro; refine ⟨fun w1 h1 K hK => ?_, ?_⟩; · ( go_big_quiet_op; first | exact hK | fail))
        (refine wpAnyP_take0 (i := 10) hP0 hP1 hC0 (by decide) (by rfl) rfl (by kernel_rfl) rfl (by kernel_rfl) (by kernel_rfl) (by kernel_rfl) (fun _ _ _ _ h => h) (by rfl) ?_; apply Exists.intro; refine ⟨fun w1 h1 K hK => ?_, ?_⟩; · (have f0 : ∀ W : Aft w1, W.val.cell? ⟨w.heap.size + 1 + 1 + 1, 1, none⟩ = some (.int .i64 q.hi) := fun W => (ZO.below (hP0 _ _ h1 W.below)).cell 1 rfl; go_big_quiet_op; first | exact hK | fail))
        (refine wpAnyP_take0 (i := 11) hP0 hP1 hC0 (by decide) (by rfl) rfl (by kernel_rfl) rfl (by kernel_rfl) (by kernel_rfl) (by kernel_rfl) (fun _ _ _ _ h => h) (by rfl) ?_; apply Exists.intro; refine ⟨fun w1 h1 K hK => ?_, ?_⟩; · ( go_big_quiet_op; first | exact hK | fail))
        (refine wpAnyP_take0 (i := 12) hP0 hP1 hC0 (by decide) (by rfl) rfl (by kernel_rfl) rfl (by kernel_rfl) (by kernel_rfl) (by kernel_rfl) (fun _ _ _ _ h => h) (by rfl) ?_; apply Exists.intro; refine ⟨fun w1 h1 K hK => ?_, ?_⟩; · (have f0 : ∀ W : Aft w1, W.val.cell? ⟨w.heap.size, 0, none⟩ = some (.slice (some ⟨b, off, none⟩) t.n ca) := fun W => (ZT.below (hP0 _ _ h1 W.below)).cell 0 rfl; go_big_quiet_op; first | exact hK | fail))
        (refine wpAnyP_take0 (i := 13) hP0 hP1 hC0 (by decide) (by rfl) rfl (by kernel_rfl) rfl (by kernel_rfl) (by kernel_rfl) (by kernel_rfl) (fun _ _ _ _ h => h) (by rfl) ?_; apply Exists.intro; refine ⟨fun w1 h1 K hK => ?_, ?_⟩; · ( go_big_quiet_op; first | exact hK | fail))
        (refine wpAnyP_take0 (i := 14) hP0 hP1 hC0 (by decide) (by rfl) rfl (by kernel_rfl) rfl (by kernel_rfl) (by kernel_rfl) (by kernel_rfl) (fun _ _ _ _ h => h) (by rfl) ?_; apply Exists.intro; refine ⟨fun w1 h1 K hK => ?_, ?_⟩; · ( go_big_quiet_op; first | exact hK | fail))
        (refine wpAnyP_take0 (i := 15) hP0 hP1 hC0 (by decide) (by rfl) rfl (by kernel_rfl) rfl (by kernel_rfl) (by kernel_rfl) (by kernel_rfl) (fun _ _ _ _ h => h) (by rfl) ?_; apply Exists.intro; refine ⟨fun w1 h1 K hK => ?_, ?_⟩; · ( go_big_quiet_op; first | exact hK | fail))
        (refine wpAnyP_take0 (i := 16) hP0 hP1 hC0 (by decide) (by rfl) rfl (by kernel_rfl) rfl (by kernel_rfl) (by kernel_rfl) (by kernel_rfl) (fun _ _ _ _ h => h) (by rfl) ?_; apply Exists.intro; refine ⟨fun w1 h1 K hK => ?_, ?_⟩; · (have f0 : ∀ W : Aft w1, W.val.cell? ⟨b, off + k * 2, none⟩ = some (.int .i64 (t.u k).lo) := fun W => ((hP0 _ _ h1 W.below).cell (p := ⟨b, off + k * 2, none⟩) hlt0).trans d0; go_big_quiet_op; first | exact hK | fail))
        (refine wpAnyP_take0 (i := 17) hP0 hP1 hC0 (by decide) (by rfl) rfl (by kernel_rfl) rfl (by kernel_rfl) (by kernel_rfl) (by kernel_rfl) (fun _ _ _ _ h => h) (by rfl) ?_; apply Exists.intro; refine ⟨fun w1 h1 K hK => ?_, ?_⟩; · ( go_big_quiet_op; first | exact hK | fail))
        (refine wpAnyP_take0 (i := 18) hP0 hP1 hC0 (by decide) (by rfl) rfl (by kernel_rfl) rfl (by kernel_rfl) (by kernel_rfl) (by kernel_rfl) (fun _ _ _ _ h => h) (by rfl) ?_; apply Exists.intro; refine ⟨fun w1 h1 K hK => ?_, ?_⟩; · ( go_big_quiet_op; first | exact hK | fail))
        (refine wpAnyP_one (i := 19) (by kernel_rfl) rfl (by rfl) (fun wa hwa K hK => ?_))
        refine wp_store_box (ZO.drew.below hwa) rfl rfl rfl rfl (by kernel_rfl) (by simp [Value.oneCell']) (fun ws zs ho => ?_); dsimp only [Act.put]
        refine hK _ _ trivial ?_
        refine wpAnyP_done (by kernel_rfl) (fun wz hwz => ?_) _
        have hA := hP0 _ _ hC0 hwa
        have hZ := zs.below hwz
        have LT : TB t (some ⟨b, off, none⟩) ca ob cb w.heap.size wz := (ho.box (HI.out.hT.below hA) (by omega)).below hwz
        have LS := (ho.box (HI.out.hS.below hA) (by omega)).below hwz
        have LR := (ho.box (HI.out.hR.below hA) (by omega)).below hwz
        have LB : Below w.heap.size w wz := ((HI.out.low.trans (hA.mono HI.out.low.size)).trans (ho.below (by omega))).trans (hwz.mono (by have := HI.out.low.size; have := hA.size; have := ho.size; omega))
        have HLL := Lib.hid (show LI t s (some ⟨b, off, none⟩) ca ob cb w (k + 1) wz from ⟨LB, LT, LS, LR, by rw [E.out]; exact hZ⟩)
        clear hP0 hP1 hC0 hwa hwz hA ho zs hK K ZO ZT hZ LT LS LR LB c0 c1 c2 c3 c4 s0 s1 d0 d1 hbd hub
        go_wp2_with fail
        go_roundw
        case rel => exact ⟨k + 1, by omega, by go_num, HLL.out⟩
        case measure => simp [intOf]; omega
      · have E := Lib.hid (show leftK t.u s.flow s.shut.toNat (k + 1) = leftK t.u s.flow s.shut.toNat k by rw [HX.out] at hh; show (if hasB _ k then _ else _) = _; rw [hh]; rfl)
        clear hh
        go_wp2_with fail
        go_roundw
        case rel => exact ⟨k + 1, by omega, by go_num, ⟨HI.out.low, HI.out.hT, HI.out.hS, HI.out.hR, by rw [E.out]; exact HI.out.hO⟩⟩
        case measure => simp [intOf]; omega
    · obtain rfl : k = t.n := by omega
      have hd : decide (t.n < t.n) = false := by simp
      have o0 := HI.out.hO.cell 0 rfl
      have o1 := HI.out.hO.cell 1 rfl
      have ol := HI.out.hO.lt
      have r0 := HI.out.hR.cell 0 (v := .int .i64 0) rfl
      have r1 := HI.out.hR.cell 1 (v := .int .i64 0) rfl
      have r2 := HI.out.hR.frozen 0
      have r3 := HI.out.hR.frozen 1
      have rl := HI.out.hR.lt
      go_wp2_with fail
      have PQ := put2 r0 r1 (.int .i64 (leftK t.u s.flow s.shut.toNat t.n).lo) (.int .i64 (leftK t.u s.flow s.shut.toNat t.n).hi)
      exact bodyPost_ret (v := (leftK t.u s.flow s.shut.toNat t.n).val) (by simp [results, Tryd.results49, go_sem, PQ.1, PQ.2]) rfl ⟨rfl, (HI.out.low.setCell (by dsimp only; omega) _).setCell (by dsimp only; omega) _⟩
end Go.Proofs.YtpognhnmkjpipaaDoor
