/- Travel: boundsOf makes the table of a suspicion and a set of trips, and says whether it fits. -/
import Derived.Test.YtlofopnjjeeehaaDoorV3
namespace Go.Proofs.YtlofopnjjeeehaaDoor
open Go.RowKit
set_option maxRecDepth 100000 in
set_option maxHeartbeats 8000000 in
theorem boundsOf_any (r : Rnd) (oa : Option Addr) (ca : Nat) (off : Int) (set : Nat) (w : World) (hT : TabAt 1 Lib.deBruijn64tab w) (hw1 : 1 < w.heap.size) (hA : TrpsAt w oa r.n r.t) (hn : r.n ≤ 14) (hs : set < 2 ^ r.n) (hb0 : 0 ≤ r.nb) (hb6 : r.nb ≤ 6) (hok : ∀ i, i < r.n → (r.t i).ok) :
    Calls Tryd.prog 15 #[r.val oa ca, .int .i64 off, .int .i64 set] w fun e w' => e = .returned (.tuple #[.agg (cells13 (r.tab off set)), .bool (okT (r.tab off set))]) ∧ Below w.heap.size w w' := by
  obtain ⟨nb', nm, most, n, t⟩ := r
  obtain ⟨nb, rfl⟩ : ∃ k : Nat, nb' = k := ⟨nb'.toNat, by dsimp only at hb0; omega⟩
  dsimp only at hA hn hs hb0 hb6 hok
  have HT := Lib.hid hT
  have HA := Lib.hid hA
  have HOK := Lib.hid hok
  have HS := Lib.hid hs
  have HW1 := Lib.hid hw1
  have HFIN := Lib.hid (show Rnd.tab ⟨nb, nm, most, n, t⟩ off set = fwT 13 (tripT t (mem2 set) (benchT most off nb initT)) from rfl)
  have hs14 : set < 16384 := Nat.lt_of_lt_of_le hs (Nat.le_trans (Nat.pow_le_pow_right (by omega) hn) (by decide))
  clear hT hA hok hs hb0 hw1
  generalize Rnd.tab ⟨nb, nm, most, n, t⟩ off set = TAB at *
  go_enter Tryd.func15, Tryd.ntmps15
  go_wp2_with fail
  have fr0 : Fr w w.heap.size (w.heap.size + 1) #[.int .i64 nb, .int .i64 nm, .int .i64 most, .slice oa n ca] (initP 0 0) ((w.alloc (.cells #[.int .i64 nb, .int .i64 nm, .int .i64 most, .slice oa n ca] 29)).alloc (.cells Tryd.zeroCells63 63)) := ⟨(by repeat' (first | exact Below.refl _ _ | assumption | apply below_drewN | apply Below.drew | (refine Below.alloc ?_ ?_ _) | (refine Below.setCell ?_ ?_ _) | (simp; done) | (simp; omega) | omega)), (Box.new (g := w.heap.size) #[.int .i64 nb, .int .i64 nm, .int .i64 most, .slice oa n ca] 29 w rfl).old (.cells Tryd.zeroCells63 63), by rw [← z62]; exact Box.new (g := w.heap.size + 1) Tryd.zeroCells63 63 (w.alloc (.cells #[.int .i64 nb, .int .i64 nm, .int .i64 most, .slice oa n ca] 29)) (by simp)⟩
  obtain ⟨W0, hW0⟩ : ∃ X, X = ((w.alloc (.cells #[.int .i64 nb, .int .i64 nm, .int .i64 most, .slice oa n ca] 29)).alloc (.cells Tryd.zeroCells63 63)) := ⟨_, rfl⟩
  rw [← hW0] at fr0 ⊢
  clear hW0
  obtain ⟨g, hg⟩ : ∃ G, G = w.heap.size + 1 := ⟨_, rfl⟩
  rw [← hg] at fr0 ⊢
  obtain ⟨gr, hgr⟩ : ∃ G, G = w.heap.size := ⟨_, rfl⟩
  obtain ⟨rc, hrc⟩ : ∃ R : Array Value, R = #[.int .i64 nb, .int .i64 nm, .int .i64 most, .slice oa n ca] := ⟨_, rfl⟩
  rw [← hrc, ← hgr] at fr0
  rw [← hgr]
  have HG := Lib.hid (show w.heap.size ≤ g by omega)
  have HNE := Lib.hid (show gr ≠ g by omega)
  have R0 := Lib.hid (show rc[0]? = some (.int .i64 nb) by rw [hrc]; rfl)
  have R2 := Lib.hid (show rc[2]? = some (.int .i64 most) by rw [hrc]; rfl)
  have R3 := Lib.hid (show rc[3]? = some (.slice oa n ca) by rw [hrc]; rfl)
  clear hg hgr hrc
  have FR0 := Lib.hid fr0
  clear fr0
  go_loopw [18] (fun v18 wr => ∃ i : Nat, i ≤ 13 ∧ v18 = .int .i64 i ∧ Hid (Fr w gr g rc (initP i 0) wr)) (fun i _ => 13 - (intOf i).toNat)
  case atStart => exact ⟨0, by omega, rfl, FR0⟩
  case round =>
    obtain ⟨i, hi, rfl, HF⟩ := hrel
    clear FR0
    by_cases hlt : i < 13
    · go_wp2_with fail
      obtain ⟨wo, rfl⟩ : ∃ wo : World, wo = wr := ⟨_, rfl⟩
      go_loopw [21] (fun v21 wr => ∃ k : Nat, k ≤ 13 ∧ v21 = .int .i64 k ∧ Hid (Fr w gr g rc (initP i k) wr)) (fun i _ => 13 - (intOf i).toNat)
      case atStart => exact ⟨0, by omega, rfl, HF⟩
      case round =>
        obtain ⟨k, hk, rfl, HF1⟩ := hrel
        clear HF
        by_cases hlk : k < 13
        · by_cases hik : i = k
          · subst hik
            have hq : ((i : Int) != (i : Int)) = false := by simp
            go_wp2_with fail
            go_roundw
            case rel => exact ⟨i + 1, by omega, by go_num, Lib.hid (HF1.out.congr (initP_skip i))⟩
            case measure => simp [intOf]; omega
          · have hq : ((i : Int) != (k : Int)) = true := by simp; omega
            have hgl := HF1.out.zt.lt
            have u2 := HF1.out.zt.cell (i * 13 + k) (cells13_get _ hlt hlk)
            have uf := HF1.out.zt.frozen (i * 13 + k)
            go_upto_region 9 with fail
            have HF2 := Lib.hid ((HF1.out.set HG.out HNE.out (cells13_set _ 1099511627776 hlk)).congr (initP_step hik))
            obtain ⟨wx, hwx⟩ : ∃ X, X = wr.setCell ⟨g, i * 13 + k, none⟩ (.int .i64 1099511627776) := ⟨_, rfl⟩
            rw [← hwx] at HF2 ⊢
            clear hwx hgl u2 uf HF1
            go_wp2_with fail
            go_roundw
            case rel => exact ⟨k + 1, by omega, by go_num, HF2⟩
            case measure => simp [intOf]; omega
        · obtain rfl : k = 13 := by omega
          go_wp2_with fail
          go_roundw
          case rel => exact ⟨i + 1, by omega, by go_num, Lib.hid (HF1.out.congr (initP_row i))⟩
          case measure => simp [intOf]; omega
    · obtain rfl : i = 13 := by omega
      have HF0 := Lib.hid (HF.out.congr initP_end)
      have hgr := HF.out.zr.lt
      have hc0 := HF.out.zr.cell 0 R0.out
      clear HF hlt
      rw [show ((13 : Nat) : Int) = (13 : Int) from rfl]
      go_wp2_with fail
      clear hgr hc0
      obtain ⟨wo, rfl⟩ : ∃ wo : World, wo = wr := ⟨_, rfl⟩
      go_loopw [36] (fun v36 wr => ∃ b : Nat, b ≤ nb ∧ v36 = .int .i64 b ∧ Hid (Fr w gr g rc (benchT most off b initT) wr)) (fun i _ => nb - (intOf i).toNat)
      case atStart => exact ⟨0, by omega, rfl, HF0⟩
      case round =>
        obtain ⟨b, hb, rfl, HF⟩ := hrel
        clear HF0
        by_cases hlb : b < nb
        · have hb9 : b < 6 := by omega
          by_cases ho : (b : Int) = off
          · have HF9 := Lib.hid (show Fr w gr g rc (benchT most off (b + 1) initT) wr from by show Fr _ _ _ _ (benchK most off b _) _; unfold benchK; rw [if_pos ho]; exact HF.out)
            have hq : ((b : Int) != off) = false := by simp [ho]
            have HO := Lib.hid ho
            clear HF ho
            go_wp2_with fail
            go_roundw
            case rel => exact ⟨b + 1, by omega, by go_num, HF9⟩
            case measure => simp [intOf]; omega
          · have hq : ((b : Int) != off) = true := by simp [ho]
            have HO := Lib.hid ho
            clear ho
            go_wp2_with fail
            obtain ⟨W0, hW0⟩ : ∃ X, X = wr := ⟨_, rfl⟩
            rw [← hW0] at HF ⊢
            clear hW0
            have hP0 : ∀ A B : World, Below W0.heap.size W0 A → Below A.heap.size A B → Below W0.heap.size W0 B := fun A B h1 h2 => h1.trans (h2.mono h1.size)
            have hP1 : ∀ A B : World, W0.heap.size ≤ A.heap.size → Below A.heap.size A B → W0.heap.size ≤ B.heap.size := fun _ _ h1 h2 => Nat.le_trans h1 h2.size
            have hP01 : ∀ A : World, Below W0.heap.size W0 A → W0.heap.size ≤ A.heap.size := fun _ h1 => h1.size
            have hC0 : Below W0.heap.size W0 W0.drew := (Below.refl _ _).drew
            refine wp_region_phase 5 (fun A => Below W0.heap.size W0 A) (fun A => W0.heap.size ≤ A.heap.size) (by kernel_rfl) ?_
            (refine wpAnyP_take0 (i := 0) hP0 hP1 hC0 (by decide) (by rfl) rfl (by kernel_rfl) rfl (by kernel_rfl) (by kernel_rfl) (by kernel_rfl) (fun _ _ _ _ h => h) (by rfl) ?_; apply Exists.intro; refine ⟨fun w1 h1 K hK => ?_, ?_⟩; · ( go_big_quiet_op; first | exact hK | fail))
            (refine wpAnyP_take1 (i := 1) hP0 hP1 hP01 hC0 (by decide) rfl (by kernel_rfl) (by kernel_rfl) (by kernel_rfl) (fun _ _ _ _ h => h) (by rfl) ?_; apply Exists.intro; refine ⟨fun w1 h1 K hK => ?_, ?_⟩; · ( go_big_quiet_op; first | exact hK | fail))
            (refine wpAnyP_take0 (i := 2) hP0 hP1 hC0 (by decide) (by rfl) rfl (by kernel_rfl) rfl (by kernel_rfl) (by kernel_rfl) (by kernel_rfl) (fun _ _ _ _ h => h) (by rfl) ?_; apply Exists.intro; refine ⟨fun w1 h1 K hK => ?_, ?_⟩; · ( go_big_quiet_op; first | exact hK | exact ⟨_, fun W => aft_call (benchAt_any _ _ (by omega) (by omega)), hK⟩))
            (refine wpAnyP_take1 (i := 3) hP0 hP1 hP01 hC0 (by decide) rfl (by kernel_rfl) (by kernel_rfl) (by kernel_rfl) (fun _ _ _ _ h => h) (by rfl) ?_; apply Exists.intro; refine ⟨fun w1 h1 K hK => ?_, ?_⟩; · (have q0 : ∀ W : Aft w1, gr < W.val.heap.size := fun W => Nat.lt_of_lt_of_le HF.out.zr.lt (hP1 _ _ h1 W.below); go_big_quiet_op; first | exact hK | fail))
            (refine wpAnyP_take0 (i := 4) hP0 hP1 hC0 (by decide) (by rfl) rfl (by kernel_rfl) rfl (by kernel_rfl) (by kernel_rfl) (by kernel_rfl) (fun _ _ _ _ h => h) (by rfl) ?_; apply Exists.intro; refine ⟨fun w1 h1 K hK => ?_, ?_⟩; · (have q0 : ∀ W : Aft w1, W.val.cell? ⟨gr, 2, none⟩ = some (.int .i64 most) := fun W => (HF.out.below (hP0 _ _ h1 W.below)).zr.cell 2 R2.out; go_big_quiet_op; first | exact hK | fail))
            (refine wpAnyP_one (i := 5) (by kernel_rfl) rfl (by rfl) (fun wa hwa K hK => ?_))
            go_simp
            have hlow := hP0 _ _ hC0 hwa
            refine (atMost_at _ _ (1 + b) 0 g _ _ _ (by first | rfl | omega) (by first | rfl | omega) (by omega) (by omega) (HF.out.below hlow).zt).mono ?_
            rintro e wb ⟨⟨v9, rfl⟩, hTb⟩
            refine hK _ _ (Nat.le_trans hlow.size hTb.but.size) ?_
            clear hK K
            refine wpAnyP_done (by kernel_rfl) (fun wz hwz => ?_) _
            have HF2 := Lib.hid (((HF.out.below hlow).tab hTb HG.out HNE.out).below hwz)
            clear hP0 hP1 hP01 hC0 hlow hTb hwz hwa
            clear HF
            go_wp2_with fail
            have hP0 : ∀ A B : World, Below wz.heap.size wz A → Below A.heap.size A B → Below wz.heap.size wz B := fun A B h1 h2 => h1.trans (h2.mono h1.size)
            have hP1 : ∀ A B : World, wz.heap.size ≤ A.heap.size → Below A.heap.size A B → wz.heap.size ≤ B.heap.size := fun _ _ h1 h2 => Nat.le_trans h1 h2.size
            have hP01 : ∀ A : World, Below wz.heap.size wz A → wz.heap.size ≤ A.heap.size := fun _ h1 => h1.size
            have hC0 : Below wz.heap.size wz wz.drew := (Below.refl _ _).drew
            refine wp_region_phase 5 (fun A => Below wz.heap.size wz A) (fun A => wz.heap.size ≤ A.heap.size) (by kernel_rfl) ?_
            (refine wpAnyP_take0 (i := 0) hP0 hP1 hC0 (by decide) (by rfl) rfl (by kernel_rfl) rfl (by kernel_rfl) (by kernel_rfl) (by kernel_rfl) (fun _ _ _ _ h => h) (by rfl) ?_; apply Exists.intro; refine ⟨fun w1 h1 K hK => ?_, ?_⟩; · ( go_big_quiet_op; first | exact hK | fail))
            (refine wpAnyP_take1 (i := 1) hP0 hP1 hP01 hC0 (by decide) rfl (by kernel_rfl) (by kernel_rfl) (by kernel_rfl) (fun _ _ _ _ h => h) (by rfl) ?_; apply Exists.intro; refine ⟨fun w1 h1 K hK => ?_, ?_⟩; · ( go_big_quiet_op; first | exact hK | fail))
            (refine wpAnyP_take0 (i := 2) hP0 hP1 hC0 (by decide) (by rfl) rfl (by kernel_rfl) rfl (by kernel_rfl) (by kernel_rfl) (by kernel_rfl) (fun _ _ _ _ h => h) (by rfl) ?_; apply Exists.intro; refine ⟨fun w1 h1 K hK => ?_, ?_⟩; · ( go_big_quiet_op; first | exact hK | exact ⟨_, fun W => aft_call (benchAt_any _ _ (by omega) (by omega)), hK⟩))
            (refine wpAnyP_take1 (i := 3) hP0 hP1 hP01 hC0 (by decide) rfl (by kernel_rfl) (by kernel_rfl) (by kernel_rfl) (fun _ _ _ _ h => h) (by rfl) ?_; apply Exists.intro; refine ⟨fun w1 h1 K hK => ?_, ?_⟩; · (have q0 : ∀ W : Aft w1, gr < W.val.heap.size := fun W => Nat.lt_of_lt_of_le HF2.out.zr.lt (hP1 _ _ h1 W.below); go_big_quiet_op; first | exact hK | fail))
            (refine wpAnyP_take0 (i := 4) hP0 hP1 hC0 (by decide) (by rfl) rfl (by kernel_rfl) rfl (by kernel_rfl) (by kernel_rfl) (by kernel_rfl) (fun _ _ _ _ h => h) (by rfl) ?_; apply Exists.intro; refine ⟨fun w1 h1 K hK => ?_, ?_⟩; · (have q0 : ∀ W : Aft w1, W.val.cell? ⟨gr, 2, none⟩ = some (.int .i64 most) := fun W => (HF2.out.below (hP0 _ _ h1 W.below)).zr.cell 2 R2.out; go_big_quiet_op; first | exact hK | fail))
            (refine wpAnyP_one (i := 5) (by kernel_rfl) rfl (by rfl) (fun wa hwa K hK => ?_))
            go_simp
            have hlow := hP0 _ _ hC0 hwa
            refine (atMost_at _ _ 0 (1 + b) g _ _ _ (by first | rfl | omega) (by first | rfl | omega) (by omega) (by omega) (HF2.out.below hlow).zt).mono ?_
            rintro e wb ⟨⟨v9, rfl⟩, hTb⟩
            refine hK _ _ (Nat.le_trans hlow.size hTb.but.size) ?_
            clear hK K
            refine wpAnyP_done (by kernel_rfl) (fun wz hwz => ?_) _
            have HF3 := Lib.hid (((HF2.out.below hlow).tab hTb HG.out HNE.out).below hwz)
            clear hP0 hP1 hP01 hC0 hlow hTb hwz hwa
            clear HF2
            have HF9 := Lib.hid (show Fr w gr g rc (benchT most off (b + 1) initT) wz from by show Fr _ _ _ _ (benchK most off b _) _; unfold benchK; rw [if_neg HO.out]; exact HF3.out)
            clear HF3
            go_wp2_with fail
            go_roundw
            case rel => exact ⟨b + 1, by omega, by go_num, HF9⟩
            case measure => simp [intOf]; omega
        · obtain rfl : b = nb := by omega
          clear hlb
          obtain ⟨W1, hW1⟩ : ∃ X, X = wr := ⟨_, rfl⟩
          rw [← hW1] at HF ⊢
          clear hW1
          go_wp2_with fail
          obtain ⟨S, hS9⟩ : ∃ S, S = tripT t (mem2 set) (benchT most off b initT) := ⟨_, rfl⟩
          rw [← hS9] at HFIN
          have HS9 := Lib.hid hS9.symm
          clear hS9
          obtain ⟨wo, rfl⟩ : ∃ wo : World, wo = W1 := ⟨_, rfl⟩
          go_loopw [12] (fun v12 wr => ∃ x : Nat, Hid (x < 2 ^ n) ∧ x < 16384 ∧ v12 = .int .u64 x ∧ ∃ D, Hid (Fr w gr g rc D wr) ∧ Hid (tripT t (mem2 x) D = S)) (fun i _ => (intOf i).toNat)
          case atStart => exact ⟨set, HS, hs14, rfl, _, HF, HS9⟩
          case round =>
            obtain ⟨x, HX, hx14, rfl, D, HFR, HD⟩ := hrel
            clear HF HS9 HS
            by_cases hx0 : x = 0
            · subst hx0
              have HD0 := Lib.hid (show D = S by have := HD.out; rw [mem2_zero] at this; exact this)
              clear HD HX hx14
              rw [show ((0 : Nat) : Int) = (0 : Int) from rfl]
              go_wp2_with fail
              obtain ⟨W2, hW2⟩ : ∃ X, X = wr := ⟨_, rfl⟩
              rw [← hW2] at HFR ⊢
              clear hW2
              have HF4 := Lib.hid (show Fr w gr g rc (fwT 0 S) W2 from by show Fr w gr g rc S W2; rw [← HD0.out]; exact HFR.out)
              clear HFR HD0
              obtain ⟨wo, rfl⟩ : ∃ wo : World, wo = W2 := ⟨_, rfl⟩
              go_loopw [92] (fun v92 wr => ∃ y : Nat, y ≤ 13 ∧ v92 = .int .i64 y ∧ Hid (Fr w gr g rc (fwT y S) wr)) (fun i _ => 13 - (intOf i).toNat)
              case atStart => exact ⟨0, by omega, rfl, HF4⟩
              case round =>
                obtain ⟨y, hy, rfl, HF⟩ := hrel
                clear HF4
                by_cases hly : y < 13
                · have bly : decide ((y : Int) < 13) = true := by simp; omega
                  obtain ⟨S1, hS1⟩ : ∃ X, X = fwT y S := ⟨_, rfl⟩
                  have HS1 := Lib.hid (show fwT (y + 1) S = phaseT y 13 S1 by rw [hS1]; rfl)
                  rw [← hS1] at HF
                  clear hS1
                  have HF5 : Hid (Fr w gr g rc (phaseT y 0 S1) wr) := HF
                  clear HF
                  go_wp2_with fail
                  obtain ⟨wo, rfl⟩ : ∃ wo : World, wo = wr := ⟨_, rfl⟩
                  go_loopw [95] (fun v95 wr => ∃ i : Nat, i ≤ 13 ∧ v95 = .int .i64 i ∧ Hid (Fr w gr g rc (phaseT y i S1) wr)) (fun i _ => 13 - (intOf i).toNat)
                  case atStart => exact ⟨0, by omega, rfl, HF5⟩
                  case round =>
                    obtain ⟨i, hi, rfl, HF⟩ := hrel
                    clear HF5
                    by_cases hli : i < 13
                    · have bli : decide ((i : Int) < 13) = true := by simp; omega
                      obtain ⟨S2, hS2⟩ : ∃ X, X = phaseT y i S1 := ⟨_, rfl⟩
                      have HS2 := Lib.hid (show phaseT y (i + 1) S1 = rowT y i 13 S2 by rw [hS2]; rfl)
                      rw [← hS2] at HF
                      clear hS2
                      have HF6 : Hid (Fr w gr g rc (rowT y i 0 S2) wr) := HF
                      clear HF
                      go_wp2_with fail
                      obtain ⟨wo, rfl⟩ : ∃ wo : World, wo = wr := ⟨_, rfl⟩
                      go_loopw [98] (fun v98 wr => ∃ k : Nat, k ≤ 13 ∧ v98 = .int .i64 k ∧ Hid (Fr w gr g rc (rowT y i k S2) wr)) (fun i _ => 13 - (intOf i).toNat)
                      case atStart => exact ⟨0, by omega, rfl, HF6⟩
                      case round =>
                        obtain ⟨k, hk, rfl, HF⟩ := hrel
                        clear HF6
                        by_cases hlk : k < 13
                        · have blk : decide ((k : Int) < 13) = true := by simp; omega
                          obtain ⟨D, hD⟩ : ∃ X, X = rowT y i k S2 := ⟨_, rfl⟩
                          have HS3 := Lib.hid (show rowT y i (k + 1) S2 = stepK y i k D by rw [hD]; rfl)
                          rw [← hD] at HF
                          clear hD
                          have hgl := HF.out.zt.lt
                          have c1 := HF.out.zt.cell (i * 13 + y) (cells13_get D hli hly)
                          have c2 := HF.out.zt.cell (y * 13 + k) (cells13_get D hly hlk)
                          obtain ⟨d1, hd1⟩ : ∃ d, d = D i y := ⟨_, rfl⟩
                          obtain ⟨d2, hd2⟩ : ∃ d, d = D y k := ⟨_, rfl⟩
                          have HST := Lib.hid (show stepK y i k D = if d1 < 1099511627776 ∧ d2 < 1099511627776 then minT D i k (IntKind.i64.wrap (d1 + d2)) else D by rw [hd1, hd2]; rfl)
                          rw [← hd1] at c1
                          rw [← hd2] at c2
                          have HC1 := Lib.hid (show (cells13 D)[i * 13 + y]? = some (.int .i64 d1) by rw [hd1]; exact cells13_get D hli hly)
                          have HC2 := Lib.hid (show (cells13 D)[y * 13 + k]? = some (.int .i64 d2) by rw [hd2]; exact cells13_get D hly hlk)
                          clear hd1 hd2
                          by_cases a1 : d1 < 1099511627776
                          · have b1 : decide (d1 < 1099511627776) = true := by simpa using a1
                            by_cases a2 : d2 < 1099511627776
                            · have b2 : decide (d2 < 1099511627776) = true := by simpa using a2
                              have HST9 := Lib.hid (show minT D i k (IntKind.i64.wrap (d1 + d2)) = rowT y i (k + 1) S2 by rw [HS3.out, HST.out, if_pos ⟨a1, a2⟩])
                              go_wp2_with fail
                              clear c1 c2 hgl a1 a2 b1 b2 HS3 HST
                              obtain ⟨W3, hW3⟩ : ∃ X, X = wr := ⟨_, rfl⟩
                              rw [← hW3] at HF ⊢
                              clear hW3
                              have hP0 : ∀ A B : World, Below W3.heap.size W3 A → Below A.heap.size A B → Below W3.heap.size W3 B := fun A B h1 h2 => h1.trans (h2.mono h1.size)
                              have hP1 : ∀ A B : World, But g W3 A → Below A.heap.size A B → But g W3 B := fun _ _ h1 h2 => h1.trans_below h2
                              have hP01 : ∀ A : World, Below W3.heap.size W3 A → But g W3 A := fun _ h1 => But.of_below h1
                              have hC0 : Below W3.heap.size W3 W3.drew := (Below.refl _ _).drew
                              refine wp_region_phase 13 (fun A => Below W3.heap.size W3 A) (fun A => But g W3 A) (by kernel_rfl) ?_
                              (refine wpAnyP_take1 (i := 0) hP0 hP1 hP01 hC0 (by decide) rfl (by kernel_rfl) (by kernel_rfl) (by kernel_rfl) (fun _ _ _ _ h => h) (by rfl) ?_; apply Exists.intro; refine ⟨fun w1 h1 K hK => ?_, ?_⟩; · ( go_big_quiet_op; first | exact hK | fail))
                              (refine wpAnyP_take1 (i := 1) hP0 hP1 hP01 hC0 (by decide) rfl (by kernel_rfl) (by kernel_rfl) (by kernel_rfl) (fun _ _ _ _ h => h) (by rfl) ?_; apply Exists.intro; refine ⟨fun w1 h1 K hK => ?_, ?_⟩; · ( go_big_quiet_op; first | exact hK | fail))
                              (refine wpAnyP_take1 (i := 2) hP0 hP1 hP01 hC0 (by decide) rfl (by kernel_rfl) (by kernel_rfl) (by kernel_rfl) (fun _ _ _ _ h => h) (by rfl) ?_; apply Exists.intro; refine ⟨fun w1 h1 K hK => ?_, ?_⟩; · ( go_big_quiet_op; first | exact hK | fail))
                              (refine wpAnyP_take1 (i := 3) hP0 hP1 hP01 hC0 (by decide) rfl (by kernel_rfl) (by kernel_rfl) (by kernel_rfl) (fun _ _ _ _ h => h) (by rfl) ?_; apply Exists.intro; refine ⟨fun w1 h1 K hK => ?_, ?_⟩; · ( go_big_quiet_op; first | exact hK | fail))
                              (refine wpAnyP_take1 (i := 4) hP0 hP1 hP01 hC0 (by decide) rfl (by kernel_rfl) (by kernel_rfl) (by kernel_rfl) (fun _ _ _ _ h => h) (by rfl) ?_; apply Exists.intro; refine ⟨fun w1 h1 K hK => ?_, ?_⟩; · ( go_big_quiet_op; first | exact hK | fail))
                              (refine wpAnyP_take1 (i := 5) hP0 hP1 hP01 hC0 (by decide) rfl (by kernel_rfl) (by kernel_rfl) (by kernel_rfl) (fun _ _ _ _ h => h) (by rfl) ?_; apply Exists.intro; refine ⟨fun w1 h1 K hK => ?_, ?_⟩; · (have q0 : ∀ W : Aft w1, g < W.val.heap.size := fun W => Nat.lt_of_lt_of_le HF.out.zt.lt (hP1 _ _ h1 W.below).size; go_big_quiet_op; first | exact hK | fail))
                              (refine wpAnyP_take1 (i := 6) hP0 hP1 hP01 hC0 (by decide) rfl (by kernel_rfl) (by kernel_rfl) (by kernel_rfl) (fun _ _ _ _ h => h) (by rfl) ?_; apply Exists.intro; refine ⟨fun w1 h1 K hK => ?_, ?_⟩; · (have q0 : ∀ W : Aft w1, g < W.val.heap.size := fun W => Nat.lt_of_lt_of_le HF.out.zt.lt (hP1 _ _ h1 W.below).size; go_big_quiet_op; first | exact hK | fail))
                              (refine wpAnyP_take0 (i := 7) hP0 hP1 hC0 (by decide) (by rfl) rfl (by kernel_rfl) rfl (by kernel_rfl) (by kernel_rfl) (by kernel_rfl) (fun _ _ _ _ h => h) (by rfl) ?_; apply Exists.intro; refine ⟨fun w1 h1 K hK => ?_, ?_⟩; · (have q0 : ∀ W : Aft w1, W.val.cell? ⟨g, i * 13 + y, none⟩ = some (.int .i64 d1) := fun W => (HF.out.below (hP0 _ _ h1 W.below)).zt.cell _ HC1.out; have q1 : ∀ W : Aft w1, g < W.val.heap.size := fun W => Nat.lt_of_lt_of_le HF.out.zt.lt (hP0 _ _ h1 W.below).size; go_big_quiet_op; first | exact hK | fail))
                              (refine wpAnyP_take1 (i := 8) hP0 hP1 hP01 hC0 (by decide) rfl (by kernel_rfl) (by kernel_rfl) (by kernel_rfl) (fun _ _ _ _ h => h) (by rfl) ?_; apply Exists.intro; refine ⟨fun w1 h1 K hK => ?_, ?_⟩; · ( go_big_quiet_op; first | exact hK | fail))
                              (refine wpAnyP_take1 (i := 9) hP0 hP1 hP01 hC0 (by decide) rfl (by kernel_rfl) (by kernel_rfl) (by kernel_rfl) (fun _ _ _ _ h => h) (by rfl) ?_; apply Exists.intro; refine ⟨fun w1 h1 K hK => ?_, ?_⟩; · ( go_big_quiet_op; first | exact hK | fail))
                              (refine wpAnyP_take1 (i := 10) hP0 hP1 hP01 hC0 (by decide) rfl (by kernel_rfl) (by kernel_rfl) (by kernel_rfl) (fun _ _ _ _ h => h) (by rfl) ?_; apply Exists.intro; refine ⟨fun w1 h1 K hK => ?_, ?_⟩; · (have q0 : ∀ W : Aft w1, g < W.val.heap.size := fun W => Nat.lt_of_lt_of_le HF.out.zt.lt (hP1 _ _ h1 W.below).size; go_big_quiet_op; first | exact hK | fail))
                              (refine wpAnyP_take1 (i := 11) hP0 hP1 hP01 hC0 (by decide) rfl (by kernel_rfl) (by kernel_rfl) (by kernel_rfl) (fun _ _ _ _ h => h) (by rfl) ?_; apply Exists.intro; refine ⟨fun w1 h1 K hK => ?_, ?_⟩; · (have q0 : ∀ W : Aft w1, g < W.val.heap.size := fun W => Nat.lt_of_lt_of_le HF.out.zt.lt (hP1 _ _ h1 W.below).size; go_big_quiet_op; first | exact hK | fail))
                              (refine wpAnyP_take0 (i := 12) hP0 hP1 hC0 (by decide) (by rfl) rfl (by kernel_rfl) rfl (by kernel_rfl) (by kernel_rfl) (by kernel_rfl) (fun _ _ _ _ h => h) (by rfl) ?_; apply Exists.intro; refine ⟨fun w1 h1 K hK => ?_, ?_⟩; · (have q0 : ∀ W : Aft w1, W.val.cell? ⟨g, y * 13 + k, none⟩ = some (.int .i64 d2) := fun W => (HF.out.below (hP0 _ _ h1 W.below)).zt.cell _ HC2.out; have q1 : ∀ W : Aft w1, g < W.val.heap.size := fun W => Nat.lt_of_lt_of_le HF.out.zt.lt (hP0 _ _ h1 W.below).size; go_big_quiet_op; first | exact hK | fail))
                              (refine wpAnyP_one (i := 13) (by kernel_rfl) rfl (by rfl) (fun wa hwa K hK => ?_))
                              go_simp
                              refine hK _ _ (hP01 _ (hP0 _ _ hC0 hwa)) ?_
                              clear hK K
                              (refine wpAnyP_one (i := 14) (by kernel_rfl) rfl (by rfl) (fun wb hwb K hK => ?_))
                              go_simp
                              have hlow := hP0 _ _ (hP0 _ _ hC0 hwa) hwb
                              refine (atMost_at _ _ i k g _ _ _ rfl rfl hli hlk (HF.out.below hlow).zt).mono ?_
                              rintro e wc ⟨⟨v9, rfl⟩, hTb⟩
                              refine hK _ _ ((But.of_below hlow).trans hTb.but) ?_
                              clear hK K
                              refine wpAnyP_done (by kernel_rfl) (fun wz hwz => ?_) _
                              have HF8 := Lib.hid (((HF.out.below hlow).tab hTb HG.out HNE.out).below hwz)
                              rw [HST9.out] at HF8
                              have HF9 := HF8
                              clear HF8 HF hP0 hP1 hP01 hC0 hlow hTb hwz hwa hwb
                              go_wp2_with fail
                              go_roundw
                              case rel => exact ⟨k + 1, by omega, by go_num, HF9⟩
                              case measure => simp [intOf]; omega
                            · have b2 : decide (d2 < 1099511627776) = false := by simpa using a2
                              have HF9 := Lib.hid (show Fr w gr g rc (rowT y i (k + 1) S2) wr by rw [HS3.out, HST.out, if_neg (by omega)]; exact HF.out)
                              clear HF HS3 HST
                              go_wp2_with fail
                              go_roundw
                              case rel => exact ⟨k + 1, by omega, by go_num, HF9⟩
                              case measure => simp [intOf]; omega
                          · have b1 : decide (d1 < 1099511627776) = false := by simpa using a1
                            have HF9 := Lib.hid (show Fr w gr g rc (rowT y i (k + 1) S2) wr by rw [HS3.out, HST.out, if_neg (by omega)]; exact HF.out)
                            clear HF HS3 HST
                            go_wp2_with fail
                            go_roundw
                            case rel => exact ⟨k + 1, by omega, by go_num, HF9⟩
                            case measure => simp [intOf]; omega
                        · obtain rfl : k = 13 := by omega
                          go_wp2_with fail
                          go_roundw
                          case rel => exact ⟨i + 1, by omega, by go_num, Lib.hid (by rw [HS2.out]; exact HF.out)⟩
                          case measure => simp [intOf]; omega
                    · obtain rfl : i = 13 := by omega
                      go_wp2_with fail
                      go_roundw
                      case rel => exact ⟨y + 1, by omega, by go_num, Lib.hid (by rw [HS1.out]; exact HF.out)⟩
                      case measure => simp [intOf]; omega
                · obtain rfl : y = 13 := by omega
                  have HF4 := Lib.hid (show Fr w gr g rc TAB wr by rw [HFIN.out]; exact HF.out)
                  clear HF
                  rw [show ((13 : Nat) : Int) = (13 : Int) from rfl]
                  go_wp2_with fail
                  obtain ⟨wo, rfl⟩ : ∃ wo : World, wo = wr := ⟨_, rfl⟩
                  go_loopw [133] (fun v133 wr => ∃ i : Nat, i ≤ 13 ∧ v133 = .int .i64 i ∧ Hid (Fr w gr g rc TAB wr) ∧ Hid (∀ j, j < i → 0 ≤ TAB j j)) (fun i _ => 13 - (intOf i).toNat)
                  case atStart => exact ⟨0, by omega, rfl, HF4, Lib.hid fun j hj => absurd hj (by omega)⟩
                  case round =>
                    obtain ⟨i, hi, rfl, HF, HJ⟩ := hrel
                    clear HF4
                    by_cases hli : i < 13
                    · have hgl := HF.out.zt.lt
                      have c1 := HF.out.zt.cell (i * 13 + i) (cells13_get TAB hli hli)
                      obtain ⟨d1, hd1⟩ : ∃ d, d = TAB i i := ⟨_, rfl⟩
                      rw [← hd1] at c1
                      have HD1 := Lib.hid hd1
                      clear hd1
                      by_cases a1 : d1 < 0
                      · have b1 : decide (d1 < 0) = true := by simpa using a1
                        have HNO := Lib.hid (show okT TAB = false by
                          rw [Bool.eq_false_iff, ne_eq, okT_iff]
                          intro h9
                          have := h9 i hli
                          have := HD1.out
                          omega)
                        go_wp2_with fail
                        rename_i hk9
                        refine wp_load_row 63 (.tmp 6) rfl g rfl 63 (cells13 TAB) (0, 0) (.array 13 61) HF.out.zt.row (by kernel_rfl) rfl (by rw [cells13_size]; kernel_rfl) (hk9 _ _ ?_)
                        clear hk9
                        dsimp only [Act.put]
                        refine wpList_plain rfl fun K2 hK2 => ?_
                        refine wp_store_box HF.out.zt rfl rfl rfl rfl (by rw [cells13_size]; kernel_rfl) (cells13_one _) (fun wf zf ho => hK2 _ _ ?_)
                        clear hK2
                        have HZF := Lib.hid zf
                        have HLO := Lib.hid (HF.out.low.trans (ho.below (Nat.le_trans (Nat.le_refl _) HG.out)))
                        clear zf ho
                        go_wp2_with fail
                        refine bodyPost_ret (results33_run _ _ g (cells13 TAB) false rfl rfl HZF.out (cells13_size _)) rfl ⟨by rw [HNO.out], HLO.out⟩
                      · have b1 : decide (d1 < 0) = false := by simpa using a1
                        have HJ9 := Lib.hid (show ∀ j, j < i + 1 → 0 ≤ TAB j j from fun j hj => by
                          by_cases h9 : j = i
                          · subst h9; have := HD1.out; omega
                          · exact HJ.out j (by omega))
                        go_wp2_with fail
                        go_roundw
                        case rel => exact ⟨i + 1, by omega, by go_num, HF, HJ9⟩
                        case measure => simp [intOf]; omega
                    · obtain rfl : i = 13 := by omega
                      have HOKT := Lib.hid (show okT TAB = true from (okT_iff _).2 HJ.out)
                      go_wp2_with fail
                      rename_i hk9
                      refine wp_load_row 63 (.tmp 6) rfl g rfl 63 (cells13 TAB) (0, 0) (.array 13 61) HF.out.zt.row (by kernel_rfl) rfl (by rw [cells13_size]; kernel_rfl) (hk9 _ _ ?_)
                      clear hk9
                      dsimp only [Act.put]
                      refine wpList_plain rfl fun K2 hK2 => ?_
                      refine wp_store_box HF.out.zt rfl rfl rfl rfl (by rw [cells13_size]; kernel_rfl) (cells13_one _) (fun wf zf ho => hK2 _ _ ?_)
                      clear hK2
                      have HZF := Lib.hid zf
                      have HLO := Lib.hid (HF.out.low.trans (ho.below (Nat.le_trans (Nat.le_refl _) HG.out)))
                      clear zf ho
                      go_wp2_with fail
                      refine bodyPost_ret (results33_run _ _ g (cells13 TAB) true rfl rfl HZF.out (cells13_size _)) rfl ⟨by rw [HOKT.out], HLO.out⟩
            · have hz : ((x : Int) != 0) = true := by simp; omega
              have H2 := Lib.hid (mem2_step hx0)
              have hcn : Lib.ctz 64 x < n := ctz_lt hx0 (by omega) HX.out
              have HTZ := Lib.hid (fun (W : World) (h : TabAt 1 Lib.deBruijn64tab W) => tzB_any x hx0 (by omega) W h)
              obtain ⟨c, hcc⟩ : ∃ c, c = Lib.ctz 64 x := ⟨_, rfl⟩
              rw [← hcc] at H2 hcn HTZ
              clear hcc
              have hxlt : x &&& (x - 1) ≤ x - 1 := Nat.and_le_right
              have HXL := Lib.hid (show x &&& (x - 1) < 2 ^ n by have := HX.out; omega)
              have HV1 := Lib.hid (show bits BinOp.and IntKind.u64 (x : Int) ((x : Int) - 1) = ((x &&& (x - 1) : Nat) : Int) from by
                have h9 := bits_and_u64_nat x (x - 1) (by omega) (by omega)
                rw [show ((x - 1 : Nat) : Int) = (x : Int) - 1 by omega] at h9
                exact h9)
              go_wp2_with fail
              obtain ⟨W2, hW2⟩ : ∃ X, X = wr := ⟨_, rfl⟩
              rw [← hW2] at HFR ⊢
              clear hW2
              obtain ⟨bt, ofs, rfl, hbt, c0, c1, c2, c3⟩ := (HA.out.mono HFR.out.low) c hcn
              have hok9 := HOK.out c hcn
              have HTC := Lib.hid (show t c = ⟨(t c).b, (t c).m, (t c).lo, (t c).hi⟩ from rfl)
              unfold Trp.ok at hok9
              generalize (t c).b = tb at *
              generalize (t c).m = tm at *
              generalize (t c).lo = tlo at *
              generalize (t c).hi = thi at *
              obtain ⟨hk0, hk1, hk2, hk3, hk4, hk5, hk6⟩ := hok9
              have hcn0 : (0 : Int) ≤ (c : Int) := by omega
              have hcn1 : (c : Int) < (n : Int) := by omega
              have HCELL := Lib.hid (show (bt < W2.heap.size) ∧ _ ∧ _ ∧ _ ∧ _ from ⟨hbt, c0, c1, c2, c3⟩)
              clear hbt c0 c1 c2 c3
              have HTW := Lib.hid (tab_below HT.out HW1.out HFR.out.low)
              have HW2 := Lib.hid (show 1 < W2.heap.size from Nat.lt_of_lt_of_le HW1.out HFR.out.low.size)
              have hCC : ∀ A B : World, Below W2.heap.size W2 A → Below A.heap.size A B → Below W2.heap.size W2 B := fun A B h1 h2 => h1.trans (h2.mono h1.size)
              have hC0 : Below W2.heap.size W2 W2.drew := (Below.refl _ _).drew
              refine wp_region_garb (fun A => Below W2.heap.size W2 A) (by kernel_rfl) ?_
              (refine wpAnyG_take (i := 0) hCC hC0 rfl (by kernel_rfl) (by kernel_rfl) (by kernel_rfl) (fun _ _ _ _ h => h) (by rfl) ?_; apply Exists.intro; refine ⟨fun w1 h1 K hK => ?_, ?_⟩; · (have q0 : ∀ W : Aft w1, gr < W.val.heap.size := fun W => (HFR.out.below (hCC _ _ h1 W.below)).zr.lt; go_big_quiet_op; first | exact hK | fail))
              (refine wpAnyG_take (i := 1) hCC hC0 rfl (by kernel_rfl) (by kernel_rfl) (by kernel_rfl) (fun _ _ _ _ h => h) (by rfl) ?_; apply Exists.intro; refine ⟨fun w1 h1 K hK => ?_, ?_⟩; · (have q0 : ∀ W : Aft w1, W.val.cell? ⟨gr, 3, none⟩ = some (.slice (some ⟨bt, ofs, none⟩) n ca) := fun W => (HFR.out.below (hCC _ _ h1 W.below)).zr.cell 3 R3.out; go_big_quiet_op; first | exact hK | fail))
              (refine wpAnyG_take (i := 2) hCC hC0 rfl (by kernel_rfl) (by kernel_rfl) (by kernel_rfl) (fun _ _ _ _ h => h) (by rfl) ?_; apply Exists.intro; refine ⟨fun w1 h1 K hK => ?_, ?_⟩; · ( go_big_quiet_op; first | exact hK | fail))
              (refine wpAnyG_take (i := 3) hCC hC0 rfl (by kernel_rfl) (by kernel_rfl) (by kernel_rfl) (fun _ _ _ _ h => h) (by rfl) ?_; apply Exists.intro; refine ⟨fun w1 h1 K hK => ?_, ?_⟩; · ( go_big_quiet_op; first | exact hK | exact ⟨_, fun W => aft_call (HTZ.out _ (tab_below HTW.out HW2.out (hCC _ _ h1 W.below))), hK⟩))
              (refine wpAnyG_take (i := 4) hCC hC0 rfl (by kernel_rfl) (by kernel_rfl) (by kernel_rfl) (fun _ _ _ _ h => h) (by rfl) ?_; apply Exists.intro; refine ⟨fun w1 h1 K hK => ?_, ?_⟩; · (have q0 : ∀ W : Aft w1, bt < W.val.heap.size := fun W => Nat.lt_of_lt_of_le HCELL.out.1 (hCC _ _ h1 W.below).size; go_big_quiet_op; first | exact hK | fail))
              (refine wpAnyG_take (i := 5) hCC hC0 rfl (by kernel_rfl) (by kernel_rfl) (by kernel_rfl) (fun _ _ _ _ h => h) (by rfl) ?_; apply Exists.intro; refine ⟨fun w1 h1 K hK => ?_, ?_⟩; · (have q0 : ∀ W : Aft w1, W.val.cell? ⟨bt, ofs + c * 4, none⟩ = some (.int .i64 tb) := fun W => ((hCC _ _ h1 W.below).cell (p := ⟨bt, ofs + c * 4, none⟩) HCELL.out.1).trans HCELL.out.2.1; have q1 : ∀ W : Aft w1, W.val.cell? ⟨bt, ofs + c * 4 + 1, none⟩ = some (.int .i64 tm) := fun W => ((hCC _ _ h1 W.below).cell (p := ⟨bt, ofs + c * 4 + 1, none⟩) HCELL.out.1).trans HCELL.out.2.2.1; have q2 : ∀ W : Aft w1, W.val.cell? ⟨bt, ofs + c * 4 + 1 + 1, none⟩ = some (.int .i64 tlo) := fun W => ((hCC _ _ h1 W.below).cell (p := ⟨bt, ofs + c * 4 + 1 + 1, none⟩) HCELL.out.1).trans HCELL.out.2.2.2.1; have q3 : ∀ W : Aft w1, W.val.cell? ⟨bt, ofs + c * 4 + 1 + 1 + 1, none⟩ = some (.int .i64 thi) := fun W => ((hCC _ _ h1 W.below).cell (p := ⟨bt, ofs + c * 4 + 1 + 1 + 1, none⟩) HCELL.out.1).trans HCELL.out.2.2.2.2; have q4 : ∀ W : Aft w1, bt < W.val.heap.size := fun W => Nat.lt_of_lt_of_le HCELL.out.1 (hCC _ _ h1 W.below).size; go_big_quiet_op; first | exact hK | fail))
              (refine wpAnyG_one (i := 6) (by kernel_rfl) rfl (by rfl) (fun wa hwa K hK => ?_))
              go_simp
              refine hK _ _ ((hCC _ _ hC0 hwa).alloc (by have := hC0.size; have := hwa.size; omega) _) ?_
              clear hK K
              have s9 := Box.new (g := wa.heap.size) #[.int .i64 0, .int .i64 0, .int .i64 0, .int .i64 0] 45 wa rfl
              have hC1 := (hCC _ _ hC0 hwa).alloc (by have := hC0.size; have := hwa.size; omega) (.cells #[.int .i64 0, .int .i64 0, .int .i64 0, .int .i64 0] 45)
              have hg9 : W2.heap.size ≤ wa.heap.size := Nat.le_trans hC0.size hwa.size
              clear hwa
              obtain ⟨gt, hG⟩ : ∃ G, G = wa.heap.size := ⟨_, rfl⟩
              obtain ⟨wA, hWA⟩ : ∃ X, X = wa.alloc (.cells #[.int .i64 0, .int .i64 0, .int .i64 0, .int .i64 0] 45) := ⟨_, rfl⟩
              rw [← hG] at s9 hg9 ⊢
              rw [← hWA] at s9 hC1 ⊢
              clear hG hWA
              (refine wpAnyG_one (i := 7) (by kernel_rfl) rfl (by rfl) (fun wb hwb K hK => ?_))
              refine wp_store_box (s9.below hwb) rfl rfl rfl rfl (by kernel_rfl) (by simp [Value.oneCell']) (fun wc s8 ho => ?_); dsimp only [Act.put]
              refine hK _ _ ((hCC _ _ hC1 hwb).trans (ho.below hg9)) ?_
              clear hK K
              have hC2 := (hCC _ _ hC1 hwb).trans (ho.below hg9)
              refine wpAnyG_done (by kernel_rfl) (fun wz hwz => ?_) _
              have HB := Lib.hid (s8.below hwz)
              have hz9 := hCC _ _ hC2 hwz
              have HF2 := Lib.hid (HFR.out.below hz9)
              have HGT := Lib.hid (show gt ≠ g from by have := HFR.out.zt.lt; omega)
              clear s9 hC1 ho hwb hC2 hz9 s8 hwz hC0 hCC hg9 HFR HCELL HTZ HTW HW2
              go_wp2_with fail
              have hP0 : ∀ A B : World, Below wz.heap.size wz A → Below A.heap.size A B → Below wz.heap.size wz B := fun A B h1 h2 => h1.trans (h2.mono h1.size)
              have hP1 : ∀ A B : World, But g wz A → Below A.heap.size A B → But g wz B := fun _ _ h1 h2 => h1.trans_below h2
              have hP01 : ∀ A : World, Below wz.heap.size wz A → But g wz A := fun _ h1 => But.of_below h1
              have hC0 : Below wz.heap.size wz wz.drew := (Below.refl _ _).drew
              refine wp_region_phase 10 (fun A => Below wz.heap.size wz A) (fun A => But g wz A) (by kernel_rfl) ?_
              (refine wpAnyP_take0 (i := 0) hP0 hP1 hC0 (by decide) (by rfl) rfl (by kernel_rfl) rfl (by kernel_rfl) (by kernel_rfl) (by kernel_rfl) (fun _ _ _ _ h => h) (by rfl) ?_; apply Exists.intro; refine ⟨fun w1 h1 K hK => ?_, ?_⟩; · ( go_big_quiet_op; first | exact hK | fail))
              (refine wpAnyP_take1 (i := 1) hP0 hP1 hP01 hC0 (by decide) rfl (by kernel_rfl) (by kernel_rfl) (by kernel_rfl) (fun _ _ _ _ h => h) (by rfl) ?_; apply Exists.intro; refine ⟨fun w1 h1 K hK => ?_, ?_⟩; · (have q0 : ∀ W : Aft w1, gt < W.val.heap.size := fun W => ((hP1 _ _ h1 W.below).box HB.out HGT.out).lt; go_big_quiet_op; first | exact hK | fail))
              (refine wpAnyP_take1 (i := 2) hP0 hP1 hP01 hC0 (by decide) rfl (by kernel_rfl) (by kernel_rfl) (by kernel_rfl) (fun _ _ _ _ h => h) (by rfl) ?_; apply Exists.intro; refine ⟨fun w1 h1 K hK => ?_, ?_⟩; · (have q0 : ∀ W : Aft w1, W.val.cell? ⟨gt, 1, none⟩ = some (.int .i64 tm) := fun W => ((hP1 _ _ h1 W.below).box HB.out HGT.out).cell 1 rfl; go_big_quiet_op; first | exact hK | fail))
              (refine wpAnyP_take0 (i := 3) hP0 hP1 hC0 (by decide) (by rfl) rfl (by kernel_rfl) rfl (by kernel_rfl) (by kernel_rfl) (by kernel_rfl) (fun _ _ _ _ h => h) (by rfl) ?_; apply Exists.intro; refine ⟨fun w1 h1 K hK => ?_, ?_⟩; · ( go_big_quiet_op; first | exact hK | exact ⟨_, fun W => aft_call (meterAt_any _ _ (by omega) (by omega)), hK⟩))
              (refine wpAnyP_take1 (i := 4) hP0 hP1 hP01 hC0 (by decide) rfl (by kernel_rfl) (by kernel_rfl) (by kernel_rfl) (fun _ _ _ _ h => h) (by rfl) ?_; apply Exists.intro; refine ⟨fun w1 h1 K hK => ?_, ?_⟩; · (have q0 : ∀ W : Aft w1, gt < W.val.heap.size := fun W => ((hP1 _ _ h1 W.below).box HB.out HGT.out).lt; go_big_quiet_op; first | exact hK | fail))
              (refine wpAnyP_take1 (i := 5) hP0 hP1 hP01 hC0 (by decide) rfl (by kernel_rfl) (by kernel_rfl) (by kernel_rfl) (fun _ _ _ _ h => h) (by rfl) ?_; apply Exists.intro; refine ⟨fun w1 h1 K hK => ?_, ?_⟩; · (have q0 : ∀ W : Aft w1, W.val.cell? ⟨gt, 0, none⟩ = some (.int .i64 tb) := fun W => ((hP1 _ _ h1 W.below).box HB.out HGT.out).cell 0 rfl; go_big_quiet_op; first | exact hK | fail))
              (refine wpAnyP_take0 (i := 6) hP0 hP1 hC0 (by decide) (by rfl) rfl (by kernel_rfl) rfl (by kernel_rfl) (by kernel_rfl) (by kernel_rfl) (fun _ _ _ _ h => h) (by rfl) ?_; apply Exists.intro; refine ⟨fun w1 h1 K hK => ?_, ?_⟩; · ( go_big_quiet_op; first | exact hK | exact ⟨_, fun W => aft_call (benchAt_any _ _ (by omega) (by omega)), hK⟩))
              (refine wpAnyP_take1 (i := 7) hP0 hP1 hP01 hC0 (by decide) rfl (by kernel_rfl) (by kernel_rfl) (by kernel_rfl) (fun _ _ _ _ h => h) (by rfl) ?_; apply Exists.intro; refine ⟨fun w1 h1 K hK => ?_, ?_⟩; · (have q0 : ∀ W : Aft w1, gt < W.val.heap.size := fun W => ((hP1 _ _ h1 W.below).box HB.out HGT.out).lt; go_big_quiet_op; first | exact hK | fail))
              (refine wpAnyP_take1 (i := 8) hP0 hP1 hP01 hC0 (by decide) rfl (by kernel_rfl) (by kernel_rfl) (by kernel_rfl) (fun _ _ _ _ h => h) (by rfl) ?_; apply Exists.intro; refine ⟨fun w1 h1 K hK => ?_, ?_⟩; · (have q0 : ∀ W : Aft w1, gt < W.val.heap.size := fun W => ((hP1 _ _ h1 W.below).box HB.out HGT.out).lt; go_big_quiet_op; first | exact hK | fail))
              (refine wpAnyP_take0 (i := 9) hP0 hP1 hC0 (by decide) (by rfl) rfl (by kernel_rfl) rfl (by kernel_rfl) (by kernel_rfl) (by kernel_rfl) (fun _ _ _ _ h => h) (by rfl) ?_; apply Exists.intro; refine ⟨fun w1 h1 K hK => ?_, ?_⟩; · (have q0 : ∀ W : Aft w1, W.val.cell? ⟨gt, 3, none⟩ = some (.int .i64 thi) := fun W => ((hP01 _ (hP0 _ _ h1 W.below)).box HB.out HGT.out).cell 3 rfl; go_big_quiet_op; first | exact hK | fail))
              (refine wpAnyP_one (i := 10) (by kernel_rfl) rfl (by rfl) (fun wa hwa K hK => ?_))
              go_simp
              have hlow := hP0 _ _ hC0 hwa
              refine (atMost_at _ _ (7 + tm.toNat) (1 + tb.toNat) g _ _ _ (by omega) (by omega) (by omega) (by omega) (HF2.out.below hlow).zt).mono ?_
              rintro e wb ⟨⟨v9, rfl⟩, hTb⟩
              refine hK _ _ ((But.of_below hlow).trans hTb.but) ?_
              clear hK K
              refine wpAnyP_done (by kernel_rfl) (fun wy hwy => ?_) _
              have HF3 := Lib.hid (((HF2.out.below hlow).tab hTb HG.out HNE.out).below hwy)
              have HB3 := Lib.hid ((((But.of_below hlow).trans hTb.but).box HB.out HGT.out).below hwy)
              obtain ⟨W3, hW3⟩ : ∃ X, X = wy := ⟨_, rfl⟩
              rw [← hW3] at HF3 HB3 ⊢
              clear hP0 hP1 hP01 hC0 hlow hTb hwy hwa hW3
              clear HF2 HB
              go_wp2_with fail
              have hP0 : ∀ A B : World, Below W3.heap.size W3 A → Below A.heap.size A B → Below W3.heap.size W3 B := fun A B h1 h2 => h1.trans (h2.mono h1.size)
              have hP1 : ∀ A B : World, But g W3 A → Below A.heap.size A B → But g W3 B := fun _ _ h1 h2 => h1.trans_below h2
              have hP01 : ∀ A : World, Below W3.heap.size W3 A → But g W3 A := fun _ h1 => But.of_below h1
              have hC0 : Below W3.heap.size W3 W3.drew := (Below.refl _ _).drew
              refine wp_region_phase 11 (fun A => Below W3.heap.size W3 A) (fun A => But g W3 A) (by kernel_rfl) ?_
              (refine wpAnyP_take0 (i := 0) hP0 hP1 hC0 (by decide) (by rfl) rfl (by kernel_rfl) rfl (by kernel_rfl) (by kernel_rfl) (by kernel_rfl) (fun _ _ _ _ h => h) (by rfl) ?_; apply Exists.intro; refine ⟨fun w1 h1 K hK => ?_, ?_⟩; · ( go_big_quiet_op; first | exact hK | fail))
              (refine wpAnyP_take1 (i := 1) hP0 hP1 hP01 hC0 (by decide) rfl (by kernel_rfl) (by kernel_rfl) (by kernel_rfl) (fun _ _ _ _ h => h) (by rfl) ?_; apply Exists.intro; refine ⟨fun w1 h1 K hK => ?_, ?_⟩; · (have q0 : ∀ W : Aft w1, gt < W.val.heap.size := fun W => ((hP1 _ _ h1 W.below).box HB3.out HGT.out).lt; go_big_quiet_op; first | exact hK | fail))
              (refine wpAnyP_take1 (i := 2) hP0 hP1 hP01 hC0 (by decide) rfl (by kernel_rfl) (by kernel_rfl) (by kernel_rfl) (fun _ _ _ _ h => h) (by rfl) ?_; apply Exists.intro; refine ⟨fun w1 h1 K hK => ?_, ?_⟩; · (have q0 : ∀ W : Aft w1, W.val.cell? ⟨gt, 0, none⟩ = some (.int .i64 tb) := fun W => ((hP1 _ _ h1 W.below).box HB3.out HGT.out).cell 0 rfl; go_big_quiet_op; first | exact hK | fail))
              (refine wpAnyP_take0 (i := 3) hP0 hP1 hC0 (by decide) (by rfl) rfl (by kernel_rfl) rfl (by kernel_rfl) (by kernel_rfl) (by kernel_rfl) (fun _ _ _ _ h => h) (by rfl) ?_; apply Exists.intro; refine ⟨fun w1 h1 K hK => ?_, ?_⟩; · ( go_big_quiet_op; first | exact hK | exact ⟨_, fun W => aft_call (benchAt_any _ _ (by omega) (by omega)), hK⟩))
              (refine wpAnyP_take1 (i := 4) hP0 hP1 hP01 hC0 (by decide) rfl (by kernel_rfl) (by kernel_rfl) (by kernel_rfl) (fun _ _ _ _ h => h) (by rfl) ?_; apply Exists.intro; refine ⟨fun w1 h1 K hK => ?_, ?_⟩; · (have q0 : ∀ W : Aft w1, gt < W.val.heap.size := fun W => ((hP1 _ _ h1 W.below).box HB3.out HGT.out).lt; go_big_quiet_op; first | exact hK | fail))
              (refine wpAnyP_take1 (i := 5) hP0 hP1 hP01 hC0 (by decide) rfl (by kernel_rfl) (by kernel_rfl) (by kernel_rfl) (fun _ _ _ _ h => h) (by rfl) ?_; apply Exists.intro; refine ⟨fun w1 h1 K hK => ?_, ?_⟩; · (have q0 : ∀ W : Aft w1, W.val.cell? ⟨gt, 1, none⟩ = some (.int .i64 tm) := fun W => ((hP1 _ _ h1 W.below).box HB3.out HGT.out).cell 1 rfl; go_big_quiet_op; first | exact hK | fail))
              (refine wpAnyP_take0 (i := 6) hP0 hP1 hC0 (by decide) (by rfl) rfl (by kernel_rfl) rfl (by kernel_rfl) (by kernel_rfl) (by kernel_rfl) (fun _ _ _ _ h => h) (by rfl) ?_; apply Exists.intro; refine ⟨fun w1 h1 K hK => ?_, ?_⟩; · ( go_big_quiet_op; first | exact hK | exact ⟨_, fun W => aft_call (meterAt_any _ _ (by omega) (by omega)), hK⟩))
              (refine wpAnyP_take1 (i := 7) hP0 hP1 hP01 hC0 (by decide) rfl (by kernel_rfl) (by kernel_rfl) (by kernel_rfl) (fun _ _ _ _ h => h) (by rfl) ?_; apply Exists.intro; refine ⟨fun w1 h1 K hK => ?_, ?_⟩; · (have q0 : ∀ W : Aft w1, gt < W.val.heap.size := fun W => ((hP1 _ _ h1 W.below).box HB3.out HGT.out).lt; go_big_quiet_op; first | exact hK | fail))
              (refine wpAnyP_take1 (i := 8) hP0 hP1 hP01 hC0 (by decide) rfl (by kernel_rfl) (by kernel_rfl) (by kernel_rfl) (fun _ _ _ _ h => h) (by rfl) ?_; apply Exists.intro; refine ⟨fun w1 h1 K hK => ?_, ?_⟩; · (have q0 : ∀ W : Aft w1, gt < W.val.heap.size := fun W => ((hP1 _ _ h1 W.below).box HB3.out HGT.out).lt; go_big_quiet_op; first | exact hK | fail))
              (refine wpAnyP_take1 (i := 9) hP0 hP1 hP01 hC0 (by decide) rfl (by kernel_rfl) (by kernel_rfl) (by kernel_rfl) (fun _ _ _ _ h => h) (by rfl) ?_; apply Exists.intro; refine ⟨fun w1 h1 K hK => ?_, ?_⟩; · (have q0 : ∀ W : Aft w1, W.val.cell? ⟨gt, 2, none⟩ = some (.int .i64 tlo) := fun W => ((hP1 _ _ h1 W.below).box HB3.out HGT.out).cell 2 rfl; go_big_quiet_op; first | exact hK | fail))
              (refine wpAnyP_take0 (i := 10) hP0 hP1 hC0 (by decide) (by rfl) rfl (by kernel_rfl) rfl (by kernel_rfl) (by kernel_rfl) (by kernel_rfl) (fun _ _ _ _ h => h) (by rfl) ?_; apply Exists.intro; refine ⟨fun w1 h1 K hK => ?_, ?_⟩; · ( go_big_quiet_op; first | exact hK | fail))
              (refine wpAnyP_one (i := 11) (by kernel_rfl) rfl (by rfl) (fun wa hwa K hK => ?_))
              go_simp
              have hlow := hP0 _ _ hC0 hwa
              refine (atMost_at _ _ (1 + tb.toNat) (7 + tm.toNat) g _ _ _ (by omega) (by omega) (by omega) (by omega) (HF3.out.below hlow).zt).mono ?_
              rintro e wb ⟨⟨v9, rfl⟩, hTb⟩
              refine hK _ _ ((But.of_below hlow).trans hTb.but) ?_
              clear hK K
              refine wpAnyP_done (by kernel_rfl) (fun wx hwx => ?_) _
              have HF4 := Lib.hid (((HF3.out.below hlow).tab hTb HG.out HNE.out).below hwx)
              have HB4 := Lib.hid ((((But.of_below hlow).trans hTb.but).box HB3.out HGT.out).below hwx)
              obtain ⟨W3, hW3⟩ : ∃ X, X = wx := ⟨_, rfl⟩
              rw [← hW3] at HF4 HB4 ⊢
              clear hP0 hP1 hP01 hC0 hlow hTb hwx hwa hW3
              clear HF3 HB3 HB4
              have HD9 := Lib.hid (show tripT t (mem2 (x &&& (x - 1))) (minT (minT D (7 + tm.toNat) (1 + tb.toNat) thi) (1 + tb.toNat) (7 + tm.toNat) (-tlo)) = S from by
                have h9 := HD.out
                rw [H2.out] at h9
                have h8 : tripT t (mem2 (x &&& (x - 1))) (tripK (t _) D) = S := h9
                rw [HTC.out] at h8
                exact h8)
              have hv1 := HV1.out
              clear HD H2 HTC HX
              go_wp2_with fail
              go_roundw
              case rel => exact ⟨x &&& (x - 1), HXL, by omega, rfl, _, HF4, HD9⟩
              case measure => simp [intOf]; omega
end Go.Proofs.YtlofopnjjeeehaaDoor
