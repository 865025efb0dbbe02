/- The document's side: none, one and add. -/
import Derived.Test.YtpognhnmkjpipaaDoorR2
import Derived.Test.YtpognhnmkjpipaaDoorP1
namespace Go.Proofs.YtpognhnmkjpipaaDoor
open Go.RowKit
def in0 (s : Spn) : Bool := withinB 0 s.lo s.hi
def Tst.noneB (t : Tst) : Bool := allB t.m (fun i => in0 (t.rest i).flow)
theorem rest_call {t : Tst} (hk : t.Ok) {oa : Option Addr} {w : World} (hU : SpnsAt w oa t.n t.u) (ca : Nat) (ob : Option Addr) (cb : Nat) {i : Nat} (hi : i < t.m) : ∀ W, Below w.heap.size w W →
    Calls Tryd.prog 49 #[t.val oa ca ob cb, (t.s i).val] W fun e w' => e = .returned (t.rest i).flow.val ∧ Below W.heap.size W w' := fun W hW => by
  have h1 := hk.s1 i hi
  have h2 := pow_ten hk.n2
  exact left_any t (t.s i) oa ca ob cb W hk.n2 hk.u (hk.f i hi) (hk.s0 i hi) (by omega) (hU.mono hW)
set_option maxRecDepth 100000 in
set_option maxHeartbeats 4000000 in
theorem none_any (t : Tst) (hk : t.Ok) (oa : Option Addr) (ca : Nat) (ob : Option Addr) (cb : Nat) (w : World) (hU : SpnsAt w oa t.n t.u) (hS : StpsAt w ob t.m t.s) :
    Calls Tryd.prog 34 #[t.val oa ca ob cb] w fun e w' => e = .returned (.bool t.noneB) ∧ Below w.heap.size w w' := by
  have HU := Lib.hid hU
  have HS := Lib.hid hS
  have HK := Lib.hid hk
  have hm12 := hk.m1
  clear hU hS hk
  go_enter Tryd.func34, Tryd.ntmps34
  go_wp2_with fail
  have hb0 := below_alloc1 w (.cells #[.slice oa t.n ca, .int .i64 t.leaks, .int .i64 t.least, .slice ob t.m cb] 25)
  have hT : TB t oa ca ob cb w.heap.size (w.alloc (.cells #[.slice oa t.n ca, .int .i64 t.leaks, .int .i64 t.least, .slice ob t.m cb] 25)) := Box.new _ 25 w rfl
  obtain ⟨W, hW⟩ : ∃ X, X = w.alloc (.cells #[.slice oa t.n ca, .int .i64 t.leaks, .int .i64 t.least, .slice ob t.m cb] 25) := ⟨_, rfl⟩
  rw [← hW] at hb0 hT ⊢
  clear hW
  have HT := Lib.hid hT
  clear hT
  go_loopw [3] (fun v3 wr => ∃ k : Nat, k ≤ t.m ∧ v3 = .int .i64 k ∧ Below W.heap.size W wr ∧ ∀ i, i < k → in0 (t.rest i).flow = true) (fun i _ => t.m - (intOf i).toNat)
  case atStart => exact ⟨0, Nat.zero_le _, rfl, Below.refl _ _, fun i hi => by omega⟩
  case round =>
    obtain ⟨k, hk, rfl, hbr, hno⟩ := hrel
    have HNO := Lib.hid hno
    have hbw := hb0.trans (hbr.mono hb0.size)
    have ZT : TB t oa ca ob cb w.heap.size wr := HT.out.below hbr
    clear hno
    obtain ⟨c0, c1, c2, c3, c4⟩ := TB.cells ZT
    by_cases hlt : k < t.m
    · have hd : decide (k < t.m) = true := by simpa using hlt
      have HLC := Lib.hid (rest_call HK.out (HU.out.mono hbw) ca ob cb hlt)
      obtain ⟨b, off, rfl, hlt0, d0, d1, d2⟩ := (HS.out.mono hbw) k hlt
      go_upto_region 4 with fail
      clear c0 c1 c2 c3 c4 hd
      have f0 := fun {X : World} (h : Below wr.heap.size wr X) => ZT.below h
      have hCC : ∀ A B : World, Below wr.heap.size wr A → Below A.heap.size A B → Below wr.heap.size wr B := fun A B h1 h2 => h1.trans (h2.mono h1.size)
      have hC0 : Below wr.heap.size wr wr.drew := (Below.refl _ _).drew
      refine wp_region_garb (Below wr.heap.size wr) (by kernel_rfl) ?_
      (refine wpAnyG_take (i := 0) hCC hC0 rfl (by kernel_rfl) (by kernel_rfl) (by kernel_rfl) (fun _ _ _ _ h => h) (by rfl) ?_; apply Exists.intro; refine ⟨fun w1 h1 K hK => ?_, ?_⟩; · (have f1 := fun W : Aft w1 => TB.cells (ZT.below (hCC _ _ h1 W.below)); have g0 : ∀ W : Aft w1, W.val.cell? ⟨w.heap.size, 0, none⟩ = some (.slice oa t.n ca) := fun W => (f1 W).1; have g1 : ∀ W : Aft w1, W.val.cell? ⟨w.heap.size, 1, none⟩ = some (.int .i64 t.leaks) := fun W => (f1 W).2.1; have g2 : ∀ W : Aft w1, W.val.cell? ⟨w.heap.size, 2, none⟩ = some (.int .i64 t.least) := fun W => (f1 W).2.2.1; have g3 : ∀ W : Aft w1, W.val.cell? ⟨w.heap.size, 3, none⟩ = some (.slice (some ⟨b, off, none⟩) t.m cb) := fun W => (f1 W).2.2.2.1; clear f1; go_big_quiet_op; first | exact hK | fail))
      (refine wpAnyG_take (i := 1) hCC hC0 rfl (by kernel_rfl) (by kernel_rfl) (by kernel_rfl) (fun _ _ _ _ h => h) (by rfl) ?_; apply Exists.intro; refine ⟨fun w1 h1 K hK => ?_, ?_⟩; · ( go_big_quiet_op; first | exact hK | fail))
      (refine wpAnyG_take (i := 2) hCC hC0 rfl (by kernel_rfl) (by kernel_rfl) (by kernel_rfl) (fun _ _ _ _ h => h) (by rfl) ?_; apply Exists.intro; refine ⟨fun w1 h1 K hK => ?_, ?_⟩; · (have g3 : ∀ W : Aft w1, W.val.cell? ⟨w.heap.size, 3, none⟩ = some (.slice (some ⟨b, off, none⟩) t.m cb) := fun W => (TB.cells (ZT.below (hCC _ _ h1 W.below))).2.2.2.1; go_big_quiet_op; first | exact hK | fail))
      (refine wpAnyG_take (i := 3) hCC hC0 rfl (by kernel_rfl) (by kernel_rfl) (by kernel_rfl) (fun _ _ _ _ h => h) (by rfl) ?_; apply Exists.intro; refine ⟨fun w1 h1 K hK => ?_, ?_⟩; · ( go_big_quiet_op; first | exact hK | fail))
      (refine wpAnyG_take (i := 4) hCC hC0 rfl (by kernel_rfl) (by kernel_rfl) (by kernel_rfl) (fun _ _ _ _ h => h) (by rfl) ?_; apply Exists.intro; refine ⟨fun w1 h1 K hK => ?_, ?_⟩; · ( go_big_quiet_op; first | exact hK | fail))
      (refine wpAnyG_take (i := 5) hCC hC0 rfl (by kernel_rfl) (by kernel_rfl) (by kernel_rfl) (fun _ _ _ _ h => h) (by rfl) ?_; apply Exists.intro; refine ⟨fun w1 h1 K hK => ?_, ?_⟩; · (have g0 : ∀ W : Aft w1, W.val.cell? ⟨b, off + k * 3, none⟩ = some (.int .i64 (t.s k).shut) := fun W => ((hCC _ _ h1 W.below).cell (p := ⟨b, off + k * 3, none⟩) hlt0).trans d0; have g1 : ∀ W : Aft w1, W.val.cell? ⟨b, off + k * 3 + 1, none⟩ = some (.int .i64 (t.s k).flow.lo) := fun W => ((hCC _ _ h1 W.below).cell (p := ⟨b, off + k * 3 + 1, none⟩) hlt0).trans d1; have g2 : ∀ W : Aft w1, W.val.cell? ⟨b, off + k * 3 + 1 + 1, none⟩ = some (.int .i64 (t.s k).flow.hi) := fun W => ((hCC _ _ h1 W.below).cell (p := ⟨b, off + k * 3 + 1 + 1, none⟩) hlt0).trans d2; go_big_quiet_op; first | exact hK | fail))
      (refine wpAnyG_take (i := 6) hCC hC0 rfl (by kernel_rfl) (by kernel_rfl) (by kernel_rfl) (fun _ _ _ _ h => h) (by rfl) ?_; apply Exists.intro; refine ⟨fun w1 h1 K hK => ?_, ?_⟩; · ( go_big_quiet_op; first | exact hK | exact ⟨_, fun W => aft_call (HLC.out _ (hCC _ _ h1 W.below)), hK⟩))
      (refine wpAnyG_one (i := 7) (by kernel_rfl) rfl (by rfl) (fun wa hwa K hK => ?_))
      go_simp
      refine hK _ _ ((hCC _ _ hC0 hwa).alloc (by have := hC0.size; have := hwa.size; omega) _) ?_
      clear hK K
      have s9 := Box.new (g := wa.heap.size) #[.int .i64 0, .int .i64 0] 37 wa rfl
      have hC1 := (hCC _ _ hC0 hwa).alloc (by have := hC0.size; have := hwa.size; omega) (.cells #[.int .i64 0, .int .i64 0] 37)
      have hg9 : wr.heap.size ≤ wa.heap.size := Nat.le_trans hC0.size hwa.size
      clear hwa
      obtain ⟨g9, hG⟩ : ∃ G, G = wa.heap.size := ⟨_, rfl⟩
      obtain ⟨wA, hWA⟩ : ∃ X, X = wa.alloc (.cells #[.int .i64 0, .int .i64 0] 37) := ⟨_, rfl⟩
      rw [← hG] at s9 hg9 ⊢
      rw [← hWA] at s9 hC1 ⊢
      clear hG hWA
      (refine wpAnyG_one (i := 8) (by kernel_rfl) rfl (by rfl) (fun wb hwb K hK => ?_))
      refine wp_store_box (s9.below hwb) rfl rfl rfl rfl (by kernel_rfl) (by simp [Value.oneCell']) (fun wc s8 ho => ?_); dsimp only [Act.put]
      refine hK _ _ ((hCC _ _ hC1 hwb).trans (ho.below hg9)) ?_
      clear hK K
      have hC2 := (hCC _ _ hC1 hwb).trans (ho.below hg9)
      clear s9 hC1 ho hwb
      refine wpAnyG_done (by kernel_rfl) (fun wz hwz => ?_) _
      have h9 := s8.below hwz
      have hz9 := hCC _ _ hC2 hwz
      clear s8 hC2 hwz hC0 hCC f0
      have z0 := h9.cell 0 (v := .int .i64 (t.rest k).flow.lo) rfl
      have z1 := h9.cell 1 (v := .int .i64 (t.rest k).flow.hi) rfl
      have z2 := h9.lt
      have hbz := hbw.trans (hz9.mono hbw.size)
      have HBR := Lib.hid (hbr.trans (hz9.mono hbr.size))
      clear d0 d1 d2 ZT
      cases hin : in0 (t.rest k).flow
      · have HI := Lib.hid (show withinB 0 (t.rest k).flow.lo (t.rest k).flow.hi = false from hin)
        have E := Lib.hid (show t.noneB = false from allB_false hlt hin)
        clear hin
        go_wp2_with fail
        refine (in_any _ _ _ _).mono ?_
        rintro e w9 ⟨rfl, rfl⟩
        rw [HI.out]
        go_wp2_with fail
        go_ret
        exact ⟨ret_bool (by rw [E.out]), hbz⟩
      · have HI := Lib.hid (show withinB 0 (t.rest k).flow.lo (t.rest k).flow.hi = true from hin)
        have E := Lib.hid hin
        clear hin
        go_wp2_with fail
        refine (in_any _ _ _ _).mono ?_
        rintro e w9 ⟨rfl, rfl⟩
        rw [HI.out]
        go_wp2_with fail
        go_roundw
        case rel => exact ⟨k + 1, by omega, by go_num, HBR.out, fun i hi => by
          by_cases h : i = k
          · subst h; exact E.out
          · exact HNO.out i (by omega)⟩
        case measure => simp [intOf]; omega
    · have hd : decide (k < t.m) = false := by simpa using hlt
      have E := Lib.hid (show t.noneB = true from allB_iff.2 fun i hi => HNO.out i (by omega))
      go_wp2_with fail
      go_ret
      exact ⟨ret_bool (by rw [E.out]), hbw⟩
end Go.Proofs.YtpognhnmkjpipaaDoor
