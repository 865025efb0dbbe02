/- Zone: ZoneEnds returns true. -/
import Derived.Test.YtipnaeijbbbdoaaF6
namespace Go.Proofs.Ytipnaeijbbbdoaa
open Go.RowKit
/-- the box of ZoneEnds -/
structure Ze (w : World) (oa : Option Addr) (n ca g2 : Nat) (W : World) : Prop where
  low : Below w.heap.size w W
  z : Box g2 #[.slice oa n ca] 22 W
theorem Ze.on {w : World} {oa : Option Addr} {n ca g2 : Nat} {W V : World} (H : Ze w oa n ca g2 W) (hb : Below W.heap.size W V) : Ze w oa n ca g2 V := ⟨H.low.trans (hb.mono H.low.size), H.z.below hb⟩
set_option maxRecDepth 100000 in
set_option maxHeartbeats 16000000 in
theorem zoneEnds_any (oa : Option Addr) (n ca : Nat) (z : Nat → Zon) (x : Nat) (w : World) (hA : ZonsAt w oa n z) (hx : x < 256) :
    Calls Try.prog 6 #[.slice oa n ca, .int .u8 x] w fun e w' => e = .returned (.bool true) ∧ Below w.heap.size w w' := by
  have HA := Lib.hid (fun (V : World) (hb : Below w.heap.size w V) => hA.mono hb)
  clear hA
  go_enter Try.func6, Try.ntmps6
  go_upto_region 1 with fail
  have hb0 := below_alloc1 w (.cells #[.slice oa n ca] 22)
  have hB2 := Box.new (g := w.heap.size) #[.slice oa n ca] 22 w rfl
  obtain ⟨W0, hW⟩ : ∃ X, X = w.alloc (.cells #[.slice oa n ca] 22) := ⟨_, rfl⟩
  rw [← hW] at hb0 hB2 ⊢
  clear hW
  obtain ⟨g2, hg2⟩ : ∃ G, G = w.heap.size := ⟨_, rfl⟩
  rw [← hg2] at hB2 ⊢
  have HF := Lib.hid (show Ze w oa n ca g2 W0 from ⟨hb0, hB2⟩)
  clear hb0 hB2 hg2
  have c2 := HF.out.z.cell 0 (v := .slice oa n ca) rfl
  have l2 := HF.out.z.lt
  by_cases h16 : 16 < n
  · have h16' : (16 : Int) < (n : Int) := by omega
    go_wp2_with fail
    refine (awake_any _).mono ?_
    rintro e wz ⟨rfl, hb⟩
    replace HF := Lib.hid (HF.out.on hb)
    go_wp2_with fail
    go_ret
    exact ⟨rfl, HF.out.low⟩
  have h16' : ¬ (16 : Int) < (n : Int) := by omega
  go_upto_region 3 with fail
  clear h16'
  have hn : n ≤ 16 := by omega
  clear h16
  have HO := Lib.hid (fun (V : World) (hb : Below w.heap.size w V) => own_any oa n ca z V (by omega) (HA.out V hb))
  have HLS := Lib.hid (fun (V : World) (hb : Below w.heap.size w V) => losses_any oa n ca z V (by omega) (HA.out V hb))
  have HZS := Lib.hid (fun (V : World) (hb : Below w.heap.size w V) => zones_any oa n ca z V (by omega) (HA.out V hb))
  go_wp2_with fail
  refine (HO.out _ HF.out.low).mono ?_
  intro e w1 hp
  cases hlb : listB n z
  · obtain ⟨rfl, hb⟩ := own_no hp hlb
    have HLB := Lib.hid hlb
    replace HF := Lib.hid (HF.out.on hb)
    clear hp hb hlb HO c2 l2
    have c2 := HF.out.z.cell 0 (v := .slice oa n ca) rfl
    have l2 := HF.out.z.lt
    go_wp2_with fail
    refine (HLS.out _ HF.out.low).mono ?_
    intro e w2 hp
    obtain ⟨rfl, hb⟩ := loss_no hp HLB.out
    replace HF := Lib.hid (HF.out.on hb)
    clear hp hb HLS c2 l2
    go_wp2_with fail
    refine (awake_any _).mono ?_
    rintro e wz ⟨rfl, hb⟩
    replace HF := Lib.hid (HF.out.on hb)
    go_wp2_with fail
    go_ret
    exact ⟨rfl, HF.out.low⟩
  · obtain ⟨hb, oA, cA, rfl, hsa, -⟩ := own_yes hp hlb
    have HLB := Lib.hid hlb
    obtain ⟨hn1, hn2, hz, hok⟩ := listB_spec hlb
    obtain ⟨bA, oA9, hoA, -⟩ := hsa 0 (by omega)
    subst hoA
    have HSA := Lib.hid hsa
    have HTR := Lib.hid hz
    have HOK := Lib.hid hok
    replace HF := Lib.hid (HF.out.on hb)
    clear hp hb hlb HO hz hok hsa c2 l2
    have c2 := HF.out.z.cell 0 (v := .slice oa n ca) rfl
    have l2 := HF.out.z.lt
    go_wp2_with fail
    refine (HLS.out _ HF.out.low).mono ?_
    intro e w2 hp
    by_cases hall : AllR z n
    · obtain ⟨hb, oB, cB, rfl, hsb, -⟩ := loss_all hp HLB.out hall
      obtain ⟨bB, oB9, hoB, -⟩ := hsb 0 (by omega)
      subst hoB
      have HSB := Lib.hid hsb
      have HALL := Lib.hid hall
      replace HF := Lib.hid (HF.out.on hb)
      replace HSA := Lib.hid (HSA.out.mono hb)
      clear hp hb hsb HLS hall c2 l2
      have c2 := HF.out.z.cell 0 (v := .slice oa n ca) rfl
      have l2 := HF.out.z.lt
      have hnn : ((n : Int) != (n : Int)) = false := by simp
      go_wp2_with fail
      refine (HZS.out _ HF.out.low).mono ?_
      rintro e w3 ⟨rfl, hb⟩
      rw [HLB.out]
      replace HF := Lib.hid (HF.out.on hb)
      replace HSA := Lib.hid (HSA.out.mono hb)
      replace HSB := Lib.hid (HSB.out.mono hb)
      clear hb HZS c2 l2
      have hi9 : x % n < n := Nat.mod_lt _ (by omega)
      obtain ⟨i, hi⟩ : ∃ i, i = x % n := ⟨_, rfl⟩
      have t1 : (x : Int).tmod (n : Int) = (i : Int) := by
        rw [Int.tmod_eq_emod_of_nonneg (by omega), hi]
        exact (Int.natCast_emod x n).symm
      rw [← hi] at hi9
      clear hi
      have HIN := Lib.hid hi9
      have x1 : ((n : Int) == 0) = false := by simp; omega
      have x2 : (n : Int) ≠ 0 := by omega
      have k0 : (0 : Int) ≤ (i : Int) := by omega
      have k1 : (i : Int) < (n : Int) := by omega
      have c2 := HF.out.z.cell 0 (v := .slice oa n ca) rfl
      have l2 := HF.out.z.lt
      go_upto_region 10 with fail
      clear c2 l2
      have HB9 := Lib.hid (Box.new (g := w3.heap.size) #[.int .i64 i] 3 w3 rfl)
      have hbl := below_alloc1 w3 (.cells #[.int .i64 i] 3)
      replace HF := Lib.hid (HF.out.on hbl)
      replace HSA := Lib.hid (HSA.out.mono hbl)
      replace HSB := Lib.hid (HSB.out.mono hbl)
      obtain ⟨g9, hg⟩ : ∃ G, G = w3.heap.size := ⟨_, rfl⟩
      obtain ⟨W1, hW⟩ : ∃ X, X = w3.alloc (.cells #[.int .i64 i] 3) := ⟨_, rfl⟩
      rw [← hW] at HB9 HF HSA HSB ⊢
      rw [← hg] at HB9 ⊢
      clear hW hg hbl
      have c9 := HB9.out.cell 0 (v := .int .i64 i) rfl
      have l9 := HB9.out.lt
      obtain ⟨b9, o9, e9, lB, d0, d1⟩ := HSB.out i HIN.out
      cases e9
      go_upto_region 12 with fail
      clear d0 d1 lB c9 l9
      have HDB := Lib.hid (dn_bd HTR.out HOK.out HALL.out HIN.out)
      have HOB := Lib.hid (Zon.own_bd (HOK.out i HIN.out))
      have HWI := Lib.hid (fun (V : World) (v : Int) (b : Bool) (hV : Below W1.heap.size W1 V) (v0 : 0 ≤ v) (v1 : v ≤ 1073741824) (hb : b = true ↔ AllR (updZ z i (exZ v (z i).p)) n) => with_any oa n ca i g2 g9 v b z V hn HIN.out (HA.out V (HF.out.on hV).low) (HF.out.on hV).z (HB9.out.below hV) HLB.out v0 v1 hb)
      have HXI := Lib.hid (fun (v : Int) (v0 : 0 ≤ v) (h1 : (z i).own.lo ≤ v) (h2 : v ≤ (z i).own.hi) => exact_iff (z' := updZ z i (exZ v (z i).p)) (v := v) HTR.out (fun j hj => by
        by_cases h : j = i
        · subst h; rw [updZ_self]; rfl
        · rw [updZ_ne h]) (fun j hj h => by rw [updZ_ne h]) HIN.out (by rw [updZ_self]; exact exZ_own v0) HALL.out h1 h2)
      have HOE := Lib.hid (show ownS (z i) = (z i).own from if_pos (by have := HDB.out; omega))
      have HAF := Lib.hid (show ∀ V, Below W1.heap.size W1 V → bA < V.heap.size ∧ V.cell? ⟨bA, oA9 + i * 2, none⟩ = some (.int .i64 (z i).own.lo) ∧ V.cell? ⟨bA, oA9 + i * 2 + 1, none⟩ = some (.int .i64 (z i).own.hi) from fun V hV => by
        obtain ⟨b9, o9, e9, h1, h2, h3⟩ := (HSA.out.mono hV) i HIN.out
        cases e9
        simp only [HOE.out] at h2 h3
        exact ⟨h1, h2, h3⟩)
      have HW2 := Lib.hid (fun (V : World) (v : Int) (b : Bool) (hV : Below W1.heap.size W1 V) (h1 : (z i).own.lo ≤ v) (h2 : v ≤ (z i).own.hi) (hb : b = true ↔ (dnF z n i).lo ≤ v ∧ v ≤ (dnF z n i).hi) => HWI.out V v b hV (by have := HOB.out; omega) (by have := HOB.out; omega) (hb.trans (HXI.out v (by have := HOB.out; omega) h1 h2).symm))
      obtain ⟨D, hD⟩ : ∃ D, D = dnF z n i := ⟨_, rfl⟩
      rw [← hD] at HDB ⊢
      simp only [← hD] at HW2
      clear hD
      obtain ⟨O, hO⟩ : ∃ O, O = (z i).own := ⟨_, rfl⟩
      rw [← hO] at HDB HOB HAF
      simp only [← hO] at HW2
      clear hO HWI HXI HOE HSA HSB HOK HTR HALL
      obtain ⟨dlo, dhi⟩ := D
      obtain ⟨olo, ohi⟩ := O
      simp only at HDB HOB HAF HW2
      obtain ⟨e1, e2, e3, e4, e5⟩ := HDB.out
      obtain ⟨p1, p2, p3, p4⟩ := HOB.out
      clear HDB HOB
      have hbl := below_alloc1 W1 (.cells #[.int .i64 dlo, .int .i64 dhi] 41)
      have HBX := Lib.hid (Box.new (g := W1.heap.size) #[.int .i64 dlo, .int .i64 dhi] 41 W1 rfl)
      have HL := Lib.hid hbl
      obtain ⟨g10, hg⟩ : ∃ G, G = W1.heap.size := ⟨_, rfl⟩
      obtain ⟨W2, hW⟩ : ∃ X, X = W1.alloc (.cells #[.int .i64 dlo, .int .i64 dhi] 41) := ⟨_, rfl⟩
      rw [← hW] at HBX HL ⊢
      rw [← hg] at HBX ⊢
      clear hW hg hbl
      have hq := Int.tdiv_eq_ediv_of_nonneg (a := dhi - dlo) (b := 2) (by omega)
      have hq1 : 0 ≤ (dhi - dlo) / 2 ∧ (dhi - dlo) / 2 ≤ dhi - dlo := by omega
      have HMID := Lib.hid (fun (V : World) (hV : Below W1.heap.size W1 V) => HW2.out V (dlo + (dhi - dlo) / 2) true hV (by omega) (by omega) ⟨fun _ => by omega, fun _ => rfl⟩)
      have HLO := Lib.hid (fun (V : World) (hV : Below W1.heap.size W1 V) => HW2.out V dlo true hV (by omega) (by omega) ⟨fun _ => by omega, fun _ => rfl⟩)
      have HHI := Lib.hid (fun (V : World) (hV : Below W1.heap.size W1 V) => HW2.out V dhi true hV (by omega) (by omega) ⟨fun _ => by omega, fun _ => rfl⟩)
      obtain ⟨md, hmd⟩ : ∃ m, m = (dhi - dlo) / 2 := ⟨_, rfl⟩
      rw [← hmd] at hq hq1
      simp only [← hmd] at HMID
      clear hmd
      have g1 : decide (dhi < dlo) = false := decide_eq_false (by omega)
      have g2' : decide (dlo < olo) = false := decide_eq_false (by omega)
      have g3 : decide (ohi < dhi) = false := decide_eq_false (by omega)
      have hCC : ∀ A B : World, Below W2.heap.size W2 A → Below A.heap.size A B → Below W2.heap.size W2 B := fun A B h1 h2 => h1.trans (h2.mono h1.size)
      have hC0 : Below W2.heap.size W2 W2.drew := (Below.refl _ _).drew
      refine wp_region_garb (Below W2.heap.size W2) (by kernel_rfl) ?_
      (refine wpAnyG_take (i := 0) hCC hC0 rfl (by kernel_rfl) (by kernel_rfl) (by kernel_rfl) (fun _ _ _ _ h => h) (by rfl) ?_; apply Exists.intro; refine ⟨fun w1 h1 K hK => ?_, ?_⟩; · (have q5 : ∀ V : Aft w1, g10 < V.val.heap.size := fun V => (HBX.out.below (hCC _ _ h1 V.below)).lt; go_big_quiet_op; first | exact hK | fail))
      (refine wpAnyG_take (i := 1) hCC hC0 rfl (by kernel_rfl) (by kernel_rfl) (by kernel_rfl) (fun _ _ _ _ h => h) (by rfl) ?_; apply Exists.intro; refine ⟨fun w1 h1 K hK => ?_, ?_⟩; · (have q0 : ∀ V : Aft w1, V.val.cell? ⟨g10, 0, none⟩ = some (.int .i64 dlo) := fun V => (HBX.out.below (hCC _ _ h1 V.below)).cell 0 rfl; have q5 : ∀ V : Aft w1, g10 < V.val.heap.size := fun V => (HBX.out.below (hCC _ _ h1 V.below)).lt; go_big_quiet_op; first | exact hK | fail))
      (refine wpAnyG_take (i := 2) hCC hC0 rfl (by kernel_rfl) (by kernel_rfl) (by kernel_rfl) (fun _ _ _ _ h => h) (by rfl) ?_; apply Exists.intro; refine ⟨fun w1 h1 K hK => ?_, ?_⟩; · (have q5 : ∀ V : Aft w1, g10 < V.val.heap.size := fun V => (HBX.out.below (hCC _ _ h1 V.below)).lt; go_big_quiet_op; first | exact hK | fail))
      (refine wpAnyG_take (i := 3) hCC hC0 rfl (by kernel_rfl) (by kernel_rfl) (by kernel_rfl) (fun _ _ _ _ h => h) (by rfl) ?_; apply Exists.intro; refine ⟨fun w1 h1 K hK => ?_, ?_⟩; · (have q1 : ∀ V : Aft w1, V.val.cell? ⟨g10, 1, none⟩ = some (.int .i64 dhi) := fun V => (HBX.out.below (hCC _ _ h1 V.below)).cell 1 rfl; have q5 : ∀ V : Aft w1, g10 < V.val.heap.size := fun V => (HBX.out.below (hCC _ _ h1 V.below)).lt; go_big_quiet_op; first | exact hK | fail))
      (refine wpAnyG_take (i := 4) hCC hC0 rfl (by kernel_rfl) (by kernel_rfl) (by kernel_rfl) (fun _ _ _ _ h => h) (by rfl) ?_; apply Exists.intro; refine ⟨fun w1 h1 K hK => ?_, ?_⟩; · ( go_big_quiet_op; first | exact hK | fail))
      (refine wpAnyG_take (i := 5) hCC hC0 rfl (by kernel_rfl) (by kernel_rfl) (by kernel_rfl) (fun _ _ _ _ h => h) (by rfl) ?_; apply Exists.intro; refine ⟨fun w1 h1 K hK => ?_, ?_⟩; · ( go_big_quiet_op; first | exact hK | fail))
      (refine wpAnyG_take (i := 6) hCC hC0 rfl (by kernel_rfl) (by kernel_rfl) (by kernel_rfl) (fun _ _ _ _ h => h) (by rfl) ?_; apply Exists.intro; refine ⟨fun w1 h1 K hK => ?_, ?_⟩; · (have q5 : ∀ V : Aft w1, g10 < V.val.heap.size := fun V => (HBX.out.below (hCC _ _ h1 V.below)).lt; go_big_quiet_op; first | exact hK | fail))
      (refine wpAnyG_take (i := 7) hCC hC0 rfl (by kernel_rfl) (by kernel_rfl) (by kernel_rfl) (fun _ _ _ _ h => h) (by rfl) ?_; apply Exists.intro; refine ⟨fun w1 h1 K hK => ?_, ?_⟩; · (have q0 : ∀ V : Aft w1, V.val.cell? ⟨g10, 0, none⟩ = some (.int .i64 dlo) := fun V => (HBX.out.below (hCC _ _ h1 V.below)).cell 0 rfl; have q5 : ∀ V : Aft w1, g10 < V.val.heap.size := fun V => (HBX.out.below (hCC _ _ h1 V.below)).lt; go_big_quiet_op; first | exact hK | fail))
      (refine wpAnyG_take (i := 8) hCC hC0 rfl (by kernel_rfl) (by kernel_rfl) (by kernel_rfl) (fun _ _ _ _ h => h) (by rfl) ?_; apply Exists.intro; refine ⟨fun w1 h1 K hK => ?_, ?_⟩; · ( go_big_quiet_op; first | exact hK | fail))
      (refine wpAnyG_take (i := 9) hCC hC0 rfl (by kernel_rfl) (by kernel_rfl) (by kernel_rfl) (fun _ _ _ _ h => h) (by rfl) ?_; apply Exists.intro; refine ⟨fun w1 h1 K hK => ?_, ?_⟩; · (have q2 : ∀ V : Aft w1, V.val.cell? ⟨g9, 0, none⟩ = some (.int .i64 i) := fun V => (HB9.out.below (HL.out.trans ((hCC _ _ h1 V.below).mono HL.out.size))).cell 0 rfl; have q6 : ∀ V : Aft w1, g9 < V.val.heap.size := fun V => (HB9.out.below (HL.out.trans ((hCC _ _ h1 V.below).mono HL.out.size))).lt; go_big_quiet_op; first | exact hK | fail))
      (refine wpAnyG_take (i := 10) hCC hC0 rfl (by kernel_rfl) (by kernel_rfl) (by kernel_rfl) (fun _ _ _ _ h => h) (by rfl) ?_; apply Exists.intro; refine ⟨fun w1 h1 K hK => ?_, ?_⟩; · ( go_big_quiet_op; first | exact hK | fail))
      (refine wpAnyG_take (i := 11) hCC hC0 rfl (by kernel_rfl) (by kernel_rfl) (by kernel_rfl) (fun _ _ _ _ h => h) (by rfl) ?_; apply Exists.intro; refine ⟨fun w1 h1 K hK => ?_, ?_⟩; · (have q7 : ∀ V : Aft w1, bA < V.val.heap.size := fun V => (HAF.out V.val (HL.out.trans ((hCC _ _ h1 V.below).mono HL.out.size))).1; go_big_quiet_op; first | exact hK | fail))
      (refine wpAnyG_take (i := 12) hCC hC0 rfl (by kernel_rfl) (by kernel_rfl) (by kernel_rfl) (fun _ _ _ _ h => h) (by rfl) ?_; apply Exists.intro; refine ⟨fun w1 h1 K hK => ?_, ?_⟩; · (have q3 : ∀ V : Aft w1, V.val.cell? ⟨bA, oA9 + i * 2, none⟩ = some (.int .i64 olo) := fun V => (HAF.out V.val (HL.out.trans ((hCC _ _ h1 V.below).mono HL.out.size))).2.1; have q7 : ∀ V : Aft w1, bA < V.val.heap.size := fun V => (HAF.out V.val (HL.out.trans ((hCC _ _ h1 V.below).mono HL.out.size))).1; go_big_quiet_op; first | exact hK | fail))
      (refine wpAnyG_take (i := 13) hCC hC0 rfl (by kernel_rfl) (by kernel_rfl) (by kernel_rfl) (fun _ _ _ _ h => h) (by rfl) ?_; apply Exists.intro; refine ⟨fun w1 h1 K hK => ?_, ?_⟩; · ( go_big_quiet_op; first | exact hK | fail))
      (refine wpAnyG_take (i := 14) hCC hC0 rfl (by kernel_rfl) (by kernel_rfl) (by kernel_rfl) (fun _ _ _ _ h => h) (by rfl) ?_; apply Exists.intro; refine ⟨fun w1 h1 K hK => ?_, ?_⟩; · ( go_big_quiet_op; first | exact hK | fail))
      (refine wpAnyG_take (i := 15) hCC hC0 rfl (by kernel_rfl) (by kernel_rfl) (by kernel_rfl) (fun _ _ _ _ h => h) (by rfl) ?_; apply Exists.intro; refine ⟨fun w1 h1 K hK => ?_, ?_⟩; · ( go_big_quiet_op; first | exact hK | fail))
      (refine wpAnyG_take (i := 16) hCC hC0 rfl (by kernel_rfl) (by kernel_rfl) (by kernel_rfl) (fun _ _ _ _ h => h) (by rfl) ?_; apply Exists.intro; refine ⟨fun w1 h1 K hK => ?_, ?_⟩; · (have q5 : ∀ V : Aft w1, g10 < V.val.heap.size := fun V => (HBX.out.below (hCC _ _ h1 V.below)).lt; go_big_quiet_op; first | exact hK | fail))
      (refine wpAnyG_take (i := 17) hCC hC0 rfl (by kernel_rfl) (by kernel_rfl) (by kernel_rfl) (fun _ _ _ _ h => h) (by rfl) ?_; apply Exists.intro; refine ⟨fun w1 h1 K hK => ?_, ?_⟩; · (have q1 : ∀ V : Aft w1, V.val.cell? ⟨g10, 1, none⟩ = some (.int .i64 dhi) := fun V => (HBX.out.below (hCC _ _ h1 V.below)).cell 1 rfl; have q5 : ∀ V : Aft w1, g10 < V.val.heap.size := fun V => (HBX.out.below (hCC _ _ h1 V.below)).lt; go_big_quiet_op; first | exact hK | fail))
      (refine wpAnyG_take (i := 18) hCC hC0 rfl (by kernel_rfl) (by kernel_rfl) (by kernel_rfl) (fun _ _ _ _ h => h) (by rfl) ?_; apply Exists.intro; refine ⟨fun w1 h1 K hK => ?_, ?_⟩; · ( go_big_quiet_op; first | exact hK | fail))
      (refine wpAnyG_take (i := 19) hCC hC0 rfl (by kernel_rfl) (by kernel_rfl) (by kernel_rfl) (fun _ _ _ _ h => h) (by rfl) ?_; apply Exists.intro; refine ⟨fun w1 h1 K hK => ?_, ?_⟩; · (have q2 : ∀ V : Aft w1, V.val.cell? ⟨g9, 0, none⟩ = some (.int .i64 i) := fun V => (HB9.out.below (HL.out.trans ((hCC _ _ h1 V.below).mono HL.out.size))).cell 0 rfl; have q6 : ∀ V : Aft w1, g9 < V.val.heap.size := fun V => (HB9.out.below (HL.out.trans ((hCC _ _ h1 V.below).mono HL.out.size))).lt; go_big_quiet_op; first | exact hK | fail))
      (refine wpAnyG_take (i := 20) hCC hC0 rfl (by kernel_rfl) (by kernel_rfl) (by kernel_rfl) (fun _ _ _ _ h => h) (by rfl) ?_; apply Exists.intro; refine ⟨fun w1 h1 K hK => ?_, ?_⟩; · ( go_big_quiet_op; first | exact hK | fail))
      (refine wpAnyG_take (i := 21) hCC hC0 rfl (by kernel_rfl) (by kernel_rfl) (by kernel_rfl) (fun _ _ _ _ h => h) (by rfl) ?_; apply Exists.intro; refine ⟨fun w1 h1 K hK => ?_, ?_⟩; · (have q7 : ∀ V : Aft w1, bA < V.val.heap.size := fun V => (HAF.out V.val (HL.out.trans ((hCC _ _ h1 V.below).mono HL.out.size))).1; go_big_quiet_op; first | exact hK | fail))
      (refine wpAnyG_take (i := 22) hCC hC0 rfl (by kernel_rfl) (by kernel_rfl) (by kernel_rfl) (fun _ _ _ _ h => h) (by rfl) ?_; apply Exists.intro; refine ⟨fun w1 h1 K hK => ?_, ?_⟩; · (have q4 : ∀ V : Aft w1, V.val.cell? ⟨bA, oA9 + i * 2 + 1, none⟩ = some (.int .i64 ohi) := fun V => (HAF.out V.val (HL.out.trans ((hCC _ _ h1 V.below).mono HL.out.size))).2.2; have q7 : ∀ V : Aft w1, bA < V.val.heap.size := fun V => (HAF.out V.val (HL.out.trans ((hCC _ _ h1 V.below).mono HL.out.size))).1; go_big_quiet_op; first | exact hK | fail))
      (refine wpAnyG_take (i := 23) hCC hC0 rfl (by kernel_rfl) (by kernel_rfl) (by kernel_rfl) (fun _ _ _ _ h => h) (by rfl) ?_; apply Exists.intro; refine ⟨fun w1 h1 K hK => ?_, ?_⟩; · ( go_big_quiet_op; first | exact hK | fail))
      (refine wpAnyG_take (i := 24) hCC hC0 rfl (by kernel_rfl) (by kernel_rfl) (by kernel_rfl) (fun _ _ _ _ h => h) (by rfl) ?_; apply Exists.intro; refine ⟨fun w1 h1 K hK => ?_, ?_⟩; · ( go_big_quiet_op; first | exact hK | fail))
      (refine wpAnyG_take (i := 25) hCC hC0 rfl (by kernel_rfl) (by kernel_rfl) (by kernel_rfl) (fun _ _ _ _ h => h) (by rfl) ?_; apply Exists.intro; refine ⟨fun w1 h1 K hK => ?_, ?_⟩; · ( go_big_quiet_op; first | exact hK | fail))
      (refine wpAnyG_take (i := 26) hCC hC0 rfl (by kernel_rfl) (by kernel_rfl) (by kernel_rfl) (fun _ _ _ _ h => h) (by rfl) ?_; apply Exists.intro; refine ⟨fun w1 h1 K hK => ?_, ?_⟩; · ( go_big_quiet_op; first | exact hK | fail))
      (refine wpAnyG_take (i := 27) hCC hC0 rfl (by kernel_rfl) (by kernel_rfl) (by kernel_rfl) (fun _ _ _ _ h => h) (by rfl) ?_; apply Exists.intro; refine ⟨fun w1 h1 K hK => ?_, ?_⟩; · (have q5 : ∀ V : Aft w1, g10 < V.val.heap.size := fun V => (HBX.out.below (hCC _ _ h1 V.below)).lt; go_big_quiet_op; first | exact hK | fail))
      (refine wpAnyG_take (i := 28) hCC hC0 rfl (by kernel_rfl) (by kernel_rfl) (by kernel_rfl) (fun _ _ _ _ h => h) (by rfl) ?_; apply Exists.intro; refine ⟨fun w1 h1 K hK => ?_, ?_⟩; · (have q0 : ∀ V : Aft w1, V.val.cell? ⟨g10, 0, none⟩ = some (.int .i64 dlo) := fun V => (HBX.out.below (hCC _ _ h1 V.below)).cell 0 rfl; have q5 : ∀ V : Aft w1, g10 < V.val.heap.size := fun V => (HBX.out.below (hCC _ _ h1 V.below)).lt; go_big_quiet_op; first | exact hK | fail))
      (refine wpAnyG_take (i := 29) hCC hC0 rfl (by kernel_rfl) (by kernel_rfl) (by kernel_rfl) (fun _ _ _ _ h => h) (by rfl) ?_; apply Exists.intro; refine ⟨fun w1 h1 K hK => ?_, ?_⟩; · ( go_big_quiet_op; first | exact hK | exact ⟨_, fun V => aft_call (HLO.out V.val (HL.out.trans ((hCC _ _ h1 V.below).mono HL.out.size))), hK⟩))
      (refine wpAnyG_take (i := 30) hCC hC0 rfl (by kernel_rfl) (by kernel_rfl) (by kernel_rfl) (fun _ _ _ _ h => h) (by rfl) ?_; apply Exists.intro; refine ⟨fun w1 h1 K hK => ?_, ?_⟩; · ( go_big_quiet_op; first | exact hK | fail))
      (refine wpAnyG_take (i := 31) hCC hC0 rfl (by kernel_rfl) (by kernel_rfl) (by kernel_rfl) (fun _ _ _ _ h => h) (by rfl) ?_; apply Exists.intro; refine ⟨fun w1 h1 K hK => ?_, ?_⟩; · ( go_big_quiet_op; first | exact hK | fail))
      (refine wpAnyG_take (i := 32) hCC hC0 rfl (by kernel_rfl) (by kernel_rfl) (by kernel_rfl) (fun _ _ _ _ h => h) (by rfl) ?_; apply Exists.intro; refine ⟨fun w1 h1 K hK => ?_, ?_⟩; · ( go_big_quiet_op; first | exact hK | fail))
      (refine wpAnyG_take (i := 33) hCC hC0 rfl (by kernel_rfl) (by kernel_rfl) (by kernel_rfl) (fun _ _ _ _ h => h) (by rfl) ?_; apply Exists.intro; refine ⟨fun w1 h1 K hK => ?_, ?_⟩; · ( go_big_quiet_op; first | exact hK | fail))
      (refine wpAnyG_take (i := 34) hCC hC0 rfl (by kernel_rfl) (by kernel_rfl) (by kernel_rfl) (fun _ _ _ _ h => h) (by rfl) ?_; apply Exists.intro; refine ⟨fun w1 h1 K hK => ?_, ?_⟩; · (have q5 : ∀ V : Aft w1, g10 < V.val.heap.size := fun V => (HBX.out.below (hCC _ _ h1 V.below)).lt; go_big_quiet_op; first | exact hK | fail))
      (refine wpAnyG_take (i := 35) hCC hC0 rfl (by kernel_rfl) (by kernel_rfl) (by kernel_rfl) (fun _ _ _ _ h => h) (by rfl) ?_; apply Exists.intro; refine ⟨fun w1 h1 K hK => ?_, ?_⟩; · (have q1 : ∀ V : Aft w1, V.val.cell? ⟨g10, 1, none⟩ = some (.int .i64 dhi) := fun V => (HBX.out.below (hCC _ _ h1 V.below)).cell 1 rfl; have q5 : ∀ V : Aft w1, g10 < V.val.heap.size := fun V => (HBX.out.below (hCC _ _ h1 V.below)).lt; go_big_quiet_op; first | exact hK | fail))
      (refine wpAnyG_take (i := 36) hCC hC0 rfl (by kernel_rfl) (by kernel_rfl) (by kernel_rfl) (fun _ _ _ _ h => h) (by rfl) ?_; apply Exists.intro; refine ⟨fun w1 h1 K hK => ?_, ?_⟩; · ( go_big_quiet_op; first | exact hK | exact ⟨_, fun V => aft_call (HHI.out V.val (HL.out.trans ((hCC _ _ h1 V.below).mono HL.out.size))), hK⟩))
      (refine wpAnyG_take (i := 37) hCC hC0 rfl (by kernel_rfl) (by kernel_rfl) (by kernel_rfl) (fun _ _ _ _ h => h) (by rfl) ?_; apply Exists.intro; refine ⟨fun w1 h1 K hK => ?_, ?_⟩; · ( go_big_quiet_op; first | exact hK | fail))
      (refine wpAnyG_take (i := 38) hCC hC0 rfl (by kernel_rfl) (by kernel_rfl) (by kernel_rfl) (fun _ _ _ _ h => h) (by rfl) ?_; apply Exists.intro; refine ⟨fun w1 h1 K hK => ?_, ?_⟩; · ( go_big_quiet_op; first | exact hK | fail))
      (refine wpAnyG_take (i := 39) hCC hC0 rfl (by kernel_rfl) (by kernel_rfl) (by kernel_rfl) (fun _ _ _ _ h => h) (by rfl) ?_; apply Exists.intro; refine ⟨fun w1 h1 K hK => ?_, ?_⟩; · ( go_big_quiet_op; first | exact hK | fail))
      (refine wpAnyG_take (i := 40) hCC hC0 rfl (by kernel_rfl) (by kernel_rfl) (by kernel_rfl) (fun _ _ _ _ h => h) (by rfl) ?_; apply Exists.intro; refine ⟨fun w1 h1 K hK => ?_, ?_⟩; · ( go_big_quiet_op; first | exact hK | fail))
      (refine wpAnyG_take (i := 41) hCC hC0 rfl (by kernel_rfl) (by kernel_rfl) (by kernel_rfl) (fun _ _ _ _ h => h) (by rfl) ?_; apply Exists.intro; refine ⟨fun w1 h1 K hK => ?_, ?_⟩; · (have q5 : ∀ V : Aft w1, g10 < V.val.heap.size := fun V => (HBX.out.below (hCC _ _ h1 V.below)).lt; go_big_quiet_op; first | exact hK | fail))
      (refine wpAnyG_take (i := 42) hCC hC0 rfl (by kernel_rfl) (by kernel_rfl) (by kernel_rfl) (fun _ _ _ _ h => h) (by rfl) ?_; apply Exists.intro; refine ⟨fun w1 h1 K hK => ?_, ?_⟩; · (have q0 : ∀ V : Aft w1, V.val.cell? ⟨g10, 0, none⟩ = some (.int .i64 dlo) := fun V => (HBX.out.below (hCC _ _ h1 V.below)).cell 0 rfl; have q5 : ∀ V : Aft w1, g10 < V.val.heap.size := fun V => (HBX.out.below (hCC _ _ h1 V.below)).lt; go_big_quiet_op; first | exact hK | fail))
      (refine wpAnyG_take (i := 43) hCC hC0 rfl (by kernel_rfl) (by kernel_rfl) (by kernel_rfl) (fun _ _ _ _ h => h) (by rfl) ?_; apply Exists.intro; refine ⟨fun w1 h1 K hK => ?_, ?_⟩; · (have q5 : ∀ V : Aft w1, g10 < V.val.heap.size := fun V => (HBX.out.below (hCC _ _ h1 V.below)).lt; go_big_quiet_op; first | exact hK | fail))
      (refine wpAnyG_take (i := 44) hCC hC0 rfl (by kernel_rfl) (by kernel_rfl) (by kernel_rfl) (fun _ _ _ _ h => h) (by rfl) ?_; apply Exists.intro; refine ⟨fun w1 h1 K hK => ?_, ?_⟩; · (have q1 : ∀ V : Aft w1, V.val.cell? ⟨g10, 1, none⟩ = some (.int .i64 dhi) := fun V => (HBX.out.below (hCC _ _ h1 V.below)).cell 1 rfl; have q5 : ∀ V : Aft w1, g10 < V.val.heap.size := fun V => (HBX.out.below (hCC _ _ h1 V.below)).lt; go_big_quiet_op; first | exact hK | fail))
      (refine wpAnyG_take (i := 45) hCC hC0 rfl (by kernel_rfl) (by kernel_rfl) (by kernel_rfl) (fun _ _ _ _ h => h) (by rfl) ?_; apply Exists.intro; refine ⟨fun w1 h1 K hK => ?_, ?_⟩; · (have q5 : ∀ V : Aft w1, g10 < V.val.heap.size := fun V => (HBX.out.below (hCC _ _ h1 V.below)).lt; go_big_quiet_op; first | exact hK | fail))
      (refine wpAnyG_take (i := 46) hCC hC0 rfl (by kernel_rfl) (by kernel_rfl) (by kernel_rfl) (fun _ _ _ _ h => h) (by rfl) ?_; apply Exists.intro; refine ⟨fun w1 h1 K hK => ?_, ?_⟩; · (have q0 : ∀ V : Aft w1, V.val.cell? ⟨g10, 0, none⟩ = some (.int .i64 dlo) := fun V => (HBX.out.below (hCC _ _ h1 V.below)).cell 0 rfl; have q5 : ∀ V : Aft w1, g10 < V.val.heap.size := fun V => (HBX.out.below (hCC _ _ h1 V.below)).lt; go_big_quiet_op; first | exact hK | fail))
      (refine wpAnyG_take (i := 47) hCC hC0 rfl (by kernel_rfl) (by kernel_rfl) (by kernel_rfl) (fun _ _ _ _ h => h) (by rfl) ?_; apply Exists.intro; refine ⟨fun w1 h1 K hK => ?_, ?_⟩; · ( go_big_quiet_op; first | exact hK | fail))
      (refine wpAnyG_take (i := 48) hCC hC0 rfl (by kernel_rfl) (by kernel_rfl) (by kernel_rfl) (fun _ _ _ _ h => h) (by rfl) ?_; apply Exists.intro; refine ⟨fun w1 h1 K hK => ?_, ?_⟩; · ( go_big_quiet_op; first | exact hK | fail))
      (refine wpAnyG_take (i := 49) hCC hC0 rfl (by kernel_rfl) (by kernel_rfl) (by kernel_rfl) (fun _ _ _ _ h => h) (by rfl) ?_; apply Exists.intro; refine ⟨fun w1 h1 K hK => ?_, ?_⟩; · ( go_big_quiet_op; first | exact hK | fail))
      (refine wpAnyG_take (i := 50) hCC hC0 rfl (by kernel_rfl) (by kernel_rfl) (by kernel_rfl) (fun _ _ _ _ h => h) (by rfl) ?_; apply Exists.intro; refine ⟨fun w1 h1 K hK => ?_, ?_⟩; · ( go_big_quiet_op; first | exact hK | exact ⟨_, fun V => aft_call (HMID.out V.val (HL.out.trans ((hCC _ _ h1 V.below).mono HL.out.size))), hK⟩))
      (refine wpAnyG_take (i := 51) hCC hC0 rfl (by kernel_rfl) (by kernel_rfl) (by kernel_rfl) (fun _ _ _ _ h => h) (by rfl) ?_; apply Exists.intro; refine ⟨fun w1 h1 K hK => ?_, ?_⟩; · ( go_big_quiet_op; first | exact hK | fail))
      (refine wpAnyG_take (i := 52) hCC hC0 rfl (by kernel_rfl) (by kernel_rfl) (by kernel_rfl) (fun _ _ _ _ h => h) (by rfl) ?_; apply Exists.intro; refine ⟨fun w1 h1 K hK => ?_, ?_⟩; · ( go_big_quiet_op; first | exact hK | fail))
      refine wpAnyG_done (by kernel_rfl) (fun wz hwz => ?_) _
      have hby := hCC _ _ hC0 hwz
      replace HL := Lib.hid (HL.out.trans (hby.mono HL.out.size))
      replace HBX := Lib.hid (HBX.out.below hby)
      clear hby hCC hC0 hwz HMID HLO HHI g1 g2' g3
      have HDN := Lib.hid (fun (V : World) (hV : Below W1.heap.size W1 V) (h : olo < dlo) => HW2.out V (dlo - 1) false hV (by omega) (by omega) ⟨fun h => (by cases h), fun h => by omega⟩)
      have HUP := Lib.hid (fun (V : World) (hV : Below W1.heap.size W1 V) (h : dhi < ohi) => HW2.out V (dhi + 1) false hV (by omega) (by omega) ⟨fun h => (by cases h), fun h => by omega⟩)
      clear HW2
      obtain ⟨W3, hW3⟩ : ∃ X, X = wz := ⟨_, rfl⟩
      rw [← hW3] at HL HBX ⊢
      clear hW3 wz W2
      go_upto_region 14 with fail
      by_cases hlo : dlo = olo
      · by_cases hhi : dhi = ohi
        · skip
          as_aux_lemma =>
          have b1 : (dlo == olo) = true := by simpa using hlo
          have b2 : (dhi == ohi) = true := by simpa using hhi
          have hCC : ∀ A B : World, Below W3.heap.size W3 A → Below A.heap.size A B → Below W3.heap.size W3 B := fun A B h1 h2 => h1.trans (h2.mono h1.size)
          have hC0 : Below W3.heap.size W3 W3.drew := (Below.refl _ _).drew
          refine wp_region_garb (Below W3.heap.size W3) (by kernel_rfl) ?_
          (refine wpAnyG_take (i := 0) hCC hC0 rfl (by kernel_rfl) (by kernel_rfl) (by kernel_rfl) (fun _ _ _ _ h => h) (by rfl) ?_; apply Exists.intro; refine ⟨fun w1 h1 K hK => ?_, ?_⟩; · (have q5 : ∀ V : Aft w1, g10 < V.val.heap.size := fun V => (HBX.out.below (hCC _ _ h1 V.below)).lt; go_big_quiet_op; first | exact hK | fail))
          (refine wpAnyG_take (i := 1) hCC hC0 rfl (by kernel_rfl) (by kernel_rfl) (by kernel_rfl) (fun _ _ _ _ h => h) (by rfl) ?_; apply Exists.intro; refine ⟨fun w1 h1 K hK => ?_, ?_⟩; · (have q0 : ∀ V : Aft w1, V.val.cell? ⟨g10, 0, none⟩ = some (.int .i64 dlo) := fun V => (HBX.out.below (hCC _ _ h1 V.below)).cell 0 rfl; have q5 : ∀ V : Aft w1, g10 < V.val.heap.size := fun V => (HBX.out.below (hCC _ _ h1 V.below)).lt; go_big_quiet_op; first | exact hK | fail))
          (refine wpAnyG_take (i := 2) hCC hC0 rfl (by kernel_rfl) (by kernel_rfl) (by kernel_rfl) (fun _ _ _ _ h => h) (by rfl) ?_; apply Exists.intro; refine ⟨fun w1 h1 K hK => ?_, ?_⟩; · ( go_big_quiet_op; first | exact hK | fail))
          (refine wpAnyG_take (i := 3) hCC hC0 rfl (by kernel_rfl) (by kernel_rfl) (by kernel_rfl) (fun _ _ _ _ h => h) (by rfl) ?_; apply Exists.intro; refine ⟨fun w1 h1 K hK => ?_, ?_⟩; · (have q2 : ∀ V : Aft w1, V.val.cell? ⟨g9, 0, none⟩ = some (.int .i64 i) := fun V => (HB9.out.below (HL.out.trans ((hCC _ _ h1 V.below).mono HL.out.size))).cell 0 rfl; have q6 : ∀ V : Aft w1, g9 < V.val.heap.size := fun V => (HB9.out.below (HL.out.trans ((hCC _ _ h1 V.below).mono HL.out.size))).lt; go_big_quiet_op; first | exact hK | fail))
          (refine wpAnyG_take (i := 4) hCC hC0 rfl (by kernel_rfl) (by kernel_rfl) (by kernel_rfl) (fun _ _ _ _ h => h) (by rfl) ?_; apply Exists.intro; refine ⟨fun w1 h1 K hK => ?_, ?_⟩; · ( go_big_quiet_op; first | exact hK | fail))
          (refine wpAnyG_take (i := 5) hCC hC0 rfl (by kernel_rfl) (by kernel_rfl) (by kernel_rfl) (fun _ _ _ _ h => h) (by rfl) ?_; apply Exists.intro; refine ⟨fun w1 h1 K hK => ?_, ?_⟩; · (have q7 : ∀ V : Aft w1, bA < V.val.heap.size := fun V => (HAF.out V.val (HL.out.trans ((hCC _ _ h1 V.below).mono HL.out.size))).1; go_big_quiet_op; first | exact hK | fail))
          (refine wpAnyG_take (i := 6) hCC hC0 rfl (by kernel_rfl) (by kernel_rfl) (by kernel_rfl) (fun _ _ _ _ h => h) (by rfl) ?_; apply Exists.intro; refine ⟨fun w1 h1 K hK => ?_, ?_⟩; · (have q3 : ∀ V : Aft w1, V.val.cell? ⟨bA, oA9 + i * 2, none⟩ = some (.int .i64 olo) := fun V => (HAF.out V.val (HL.out.trans ((hCC _ _ h1 V.below).mono HL.out.size))).2.1; have q7 : ∀ V : Aft w1, bA < V.val.heap.size := fun V => (HAF.out V.val (HL.out.trans ((hCC _ _ h1 V.below).mono HL.out.size))).1; go_big_quiet_op; first | exact hK | fail))
          (refine wpAnyG_take (i := 7) hCC hC0 rfl (by kernel_rfl) (by kernel_rfl) (by kernel_rfl) (fun _ _ _ _ h => h) (by rfl) ?_; apply Exists.intro; refine ⟨fun w1 h1 K hK => ?_, ?_⟩; · ( go_big_quiet_op; first | exact hK | fail))
          (refine wpAnyG_take (i := 8) hCC hC0 rfl (by kernel_rfl) (by kernel_rfl) (by kernel_rfl) (fun _ _ _ _ h => h) (by rfl) ?_; apply Exists.intro; refine ⟨fun w1 h1 K hK => ?_, ?_⟩; · ( go_big_quiet_op; first | exact hK | fail))
          (refine wpAnyG_skip (i := 9) hCC hC0 rfl (by kernel_rfl) (by kernel_rfl) (by kernel_rfl) (fun _ _ _ _ h => h) (by rfl) ?_; go_simp)
          (refine wpAnyG_skip (i := 10) hCC hC0 rfl (by kernel_rfl) (by kernel_rfl) (by kernel_rfl) (fun _ _ _ _ h => h) (by rfl) ?_; go_simp)
          (refine wpAnyG_skip (i := 11) hCC hC0 rfl (by kernel_rfl) (by kernel_rfl) (by kernel_rfl) (fun _ _ _ _ h => h) (by rfl) ?_; go_simp)
          (refine wpAnyG_skip (i := 12) hCC hC0 rfl (by kernel_rfl) (by kernel_rfl) (by kernel_rfl) (fun _ _ _ _ h => h) (by rfl) ?_; go_simp)
          (refine wpAnyG_skip (i := 13) hCC hC0 rfl (by kernel_rfl) (by kernel_rfl) (by kernel_rfl) (fun _ _ _ _ h => h) (by rfl) ?_; go_simp)
          (refine wpAnyG_skip (i := 14) hCC hC0 rfl (by kernel_rfl) (by kernel_rfl) (by kernel_rfl) (fun _ _ _ _ h => h) (by rfl) ?_; go_simp)
          (refine wpAnyG_take (i := 15) hCC hC0 rfl (by kernel_rfl) (by kernel_rfl) (by kernel_rfl) (fun _ _ _ _ h => h) (by rfl) ?_; apply Exists.intro; refine ⟨fun w1 h1 K hK => ?_, ?_⟩; · ( go_big_quiet_op; first | exact hK | fail))
          (refine wpAnyG_take (i := 16) hCC hC0 rfl (by kernel_rfl) (by kernel_rfl) (by kernel_rfl) (fun _ _ _ _ h => h) (by rfl) ?_; apply Exists.intro; refine ⟨fun w1 h1 K hK => ?_, ?_⟩; · ( go_big_quiet_op; first | exact hK | fail))
          (refine wpAnyG_take (i := 17) hCC hC0 rfl (by kernel_rfl) (by kernel_rfl) (by kernel_rfl) (fun _ _ _ _ h => h) (by rfl) ?_; apply Exists.intro; refine ⟨fun w1 h1 K hK => ?_, ?_⟩; · (have q5 : ∀ V : Aft w1, g10 < V.val.heap.size := fun V => (HBX.out.below (hCC _ _ h1 V.below)).lt; go_big_quiet_op; first | exact hK | fail))
          (refine wpAnyG_take (i := 18) hCC hC0 rfl (by kernel_rfl) (by kernel_rfl) (by kernel_rfl) (fun _ _ _ _ h => h) (by rfl) ?_; apply Exists.intro; refine ⟨fun w1 h1 K hK => ?_, ?_⟩; · (have q1 : ∀ V : Aft w1, V.val.cell? ⟨g10, 1, none⟩ = some (.int .i64 dhi) := fun V => (HBX.out.below (hCC _ _ h1 V.below)).cell 1 rfl; have q5 : ∀ V : Aft w1, g10 < V.val.heap.size := fun V => (HBX.out.below (hCC _ _ h1 V.below)).lt; go_big_quiet_op; first | exact hK | fail))
          (refine wpAnyG_take (i := 19) hCC hC0 rfl (by kernel_rfl) (by kernel_rfl) (by kernel_rfl) (fun _ _ _ _ h => h) (by rfl) ?_; apply Exists.intro; refine ⟨fun w1 h1 K hK => ?_, ?_⟩; · ( go_big_quiet_op; first | exact hK | fail))
          (refine wpAnyG_take (i := 20) hCC hC0 rfl (by kernel_rfl) (by kernel_rfl) (by kernel_rfl) (fun _ _ _ _ h => h) (by rfl) ?_; apply Exists.intro; refine ⟨fun w1 h1 K hK => ?_, ?_⟩; · (have q2 : ∀ V : Aft w1, V.val.cell? ⟨g9, 0, none⟩ = some (.int .i64 i) := fun V => (HB9.out.below (HL.out.trans ((hCC _ _ h1 V.below).mono HL.out.size))).cell 0 rfl; have q6 : ∀ V : Aft w1, g9 < V.val.heap.size := fun V => (HB9.out.below (HL.out.trans ((hCC _ _ h1 V.below).mono HL.out.size))).lt; go_big_quiet_op; first | exact hK | fail))
          (refine wpAnyG_take (i := 21) hCC hC0 rfl (by kernel_rfl) (by kernel_rfl) (by kernel_rfl) (fun _ _ _ _ h => h) (by rfl) ?_; apply Exists.intro; refine ⟨fun w1 h1 K hK => ?_, ?_⟩; · ( go_big_quiet_op; first | exact hK | fail))
          (refine wpAnyG_take (i := 22) hCC hC0 rfl (by kernel_rfl) (by kernel_rfl) (by kernel_rfl) (fun _ _ _ _ h => h) (by rfl) ?_; apply Exists.intro; refine ⟨fun w1 h1 K hK => ?_, ?_⟩; · (have q7 : ∀ V : Aft w1, bA < V.val.heap.size := fun V => (HAF.out V.val (HL.out.trans ((hCC _ _ h1 V.below).mono HL.out.size))).1; go_big_quiet_op; first | exact hK | fail))
          (refine wpAnyG_take (i := 23) hCC hC0 rfl (by kernel_rfl) (by kernel_rfl) (by kernel_rfl) (fun _ _ _ _ h => h) (by rfl) ?_; apply Exists.intro; refine ⟨fun w1 h1 K hK => ?_, ?_⟩; · (have q4 : ∀ V : Aft w1, V.val.cell? ⟨bA, oA9 + i * 2 + 1, none⟩ = some (.int .i64 ohi) := fun V => (HAF.out V.val (HL.out.trans ((hCC _ _ h1 V.below).mono HL.out.size))).2.2; have q7 : ∀ V : Aft w1, bA < V.val.heap.size := fun V => (HAF.out V.val (HL.out.trans ((hCC _ _ h1 V.below).mono HL.out.size))).1; go_big_quiet_op; first | exact hK | fail))
          (refine wpAnyG_take (i := 24) hCC hC0 rfl (by kernel_rfl) (by kernel_rfl) (by kernel_rfl) (fun _ _ _ _ h => h) (by rfl) ?_; apply Exists.intro; refine ⟨fun w1 h1 K hK => ?_, ?_⟩; · ( go_big_quiet_op; first | exact hK | fail))
          (refine wpAnyG_take (i := 25) hCC hC0 rfl (by kernel_rfl) (by kernel_rfl) (by kernel_rfl) (fun _ _ _ _ h => h) (by rfl) ?_; apply Exists.intro; refine ⟨fun w1 h1 K hK => ?_, ?_⟩; · ( go_big_quiet_op; first | exact hK | fail))
          (refine wpAnyG_skip (i := 26) hCC hC0 rfl (by kernel_rfl) (by kernel_rfl) (by kernel_rfl) (fun _ _ _ _ h => h) (by rfl) ?_; go_simp)
          (refine wpAnyG_skip (i := 27) hCC hC0 rfl (by kernel_rfl) (by kernel_rfl) (by kernel_rfl) (fun _ _ _ _ h => h) (by rfl) ?_; go_simp)
          (refine wpAnyG_skip (i := 28) hCC hC0 rfl (by kernel_rfl) (by kernel_rfl) (by kernel_rfl) (fun _ _ _ _ h => h) (by rfl) ?_; go_simp)
          (refine wpAnyG_skip (i := 29) hCC hC0 rfl (by kernel_rfl) (by kernel_rfl) (by kernel_rfl) (fun _ _ _ _ h => h) (by rfl) ?_; go_simp)
          (refine wpAnyG_skip (i := 30) hCC hC0 rfl (by kernel_rfl) (by kernel_rfl) (by kernel_rfl) (fun _ _ _ _ h => h) (by rfl) ?_; go_simp)
          (refine wpAnyG_skip (i := 31) hCC hC0 rfl (by kernel_rfl) (by kernel_rfl) (by kernel_rfl) (fun _ _ _ _ h => h) (by rfl) ?_; go_simp)
          (refine wpAnyG_take (i := 32) hCC hC0 rfl (by kernel_rfl) (by kernel_rfl) (by kernel_rfl) (fun _ _ _ _ h => h) (by rfl) ?_; apply Exists.intro; refine ⟨fun w1 h1 K hK => ?_, ?_⟩; · ( go_big_quiet_op; first | exact hK | fail))
          (refine wpAnyG_take (i := 33) hCC hC0 rfl (by kernel_rfl) (by kernel_rfl) (by kernel_rfl) (fun _ _ _ _ h => h) (by rfl) ?_; apply Exists.intro; refine ⟨fun w1 h1 K hK => ?_, ?_⟩; · ( go_big_quiet_op; first | exact hK | fail))
          (refine wpAnyG_take (i := 34) hCC hC0 rfl (by kernel_rfl) (by kernel_rfl) (by kernel_rfl) (fun _ _ _ _ h => h) (by rfl) ?_; apply Exists.intro; refine ⟨fun w1 h1 K hK => ?_, ?_⟩; · ( go_big_quiet_op; first | exact hK | fail))
          (refine wpAnyG_take (i := 35) hCC hC0 rfl (by kernel_rfl) (by kernel_rfl) (by kernel_rfl) (fun _ _ _ _ h => h) (by rfl) ?_; apply Exists.intro; refine ⟨fun w1 h1 K hK => ?_, ?_⟩; · ( go_big_quiet_op; first | exact hK | exact ⟨_, fun V => aft_call (awake_any V.val), hK⟩))
          (refine wpAnyG_take (i := 36) hCC hC0 rfl (by kernel_rfl) (by kernel_rfl) (by kernel_rfl) (fun _ _ _ _ h => h) (by rfl) ?_; apply Exists.intro; refine ⟨fun w1 h1 K hK => ?_, ?_⟩; · ( go_big_quiet_op; first | exact hK | fail))
          (refine wpAnyG_take (i := 37) hCC hC0 rfl (by kernel_rfl) (by kernel_rfl) (by kernel_rfl) (fun _ _ _ _ h => h) (by rfl) ?_; apply Exists.intro; refine ⟨fun w1 h1 K hK => ?_, ?_⟩; · ( go_big_quiet_op; first | exact hK | fail))
          refine wpAnyG_done (by kernel_rfl) (fun wz hwz => ?_) _
          have HZ := Lib.hid (HF.out.on (HL.out.trans ((hCC _ _ hC0 hwz).mono HL.out.size)))
          clear hCC hC0 hwz
          go_wp2_with fail
          go_ret
          exact ⟨rfl, HZ.out.low⟩
        · replace hhi : dhi < ohi := by omega
          as_aux_lemma =>
          have b1 : (dlo == olo) = true := by simpa using hlo
          have b2 : (dhi == ohi) = false := by simp; omega
          have hCC : ∀ A B : World, Below W3.heap.size W3 A → Below A.heap.size A B → Below W3.heap.size W3 B := fun A B h1 h2 => h1.trans (h2.mono h1.size)
          have hC0 : Below W3.heap.size W3 W3.drew := (Below.refl _ _).drew
          refine wp_region_garb (Below W3.heap.size W3) (by kernel_rfl) ?_
          (refine wpAnyG_take (i := 0) hCC hC0 rfl (by kernel_rfl) (by kernel_rfl) (by kernel_rfl) (fun _ _ _ _ h => h) (by rfl) ?_; apply Exists.intro; refine ⟨fun w1 h1 K hK => ?_, ?_⟩; · (have q5 : ∀ V : Aft w1, g10 < V.val.heap.size := fun V => (HBX.out.below (hCC _ _ h1 V.below)).lt; go_big_quiet_op; first | exact hK | fail))
          (refine wpAnyG_take (i := 1) hCC hC0 rfl (by kernel_rfl) (by kernel_rfl) (by kernel_rfl) (fun _ _ _ _ h => h) (by rfl) ?_; apply Exists.intro; refine ⟨fun w1 h1 K hK => ?_, ?_⟩; · (have q0 : ∀ V : Aft w1, V.val.cell? ⟨g10, 0, none⟩ = some (.int .i64 dlo) := fun V => (HBX.out.below (hCC _ _ h1 V.below)).cell 0 rfl; have q5 : ∀ V : Aft w1, g10 < V.val.heap.size := fun V => (HBX.out.below (hCC _ _ h1 V.below)).lt; go_big_quiet_op; first | exact hK | fail))
          (refine wpAnyG_take (i := 2) hCC hC0 rfl (by kernel_rfl) (by kernel_rfl) (by kernel_rfl) (fun _ _ _ _ h => h) (by rfl) ?_; apply Exists.intro; refine ⟨fun w1 h1 K hK => ?_, ?_⟩; · ( go_big_quiet_op; first | exact hK | fail))
          (refine wpAnyG_take (i := 3) hCC hC0 rfl (by kernel_rfl) (by kernel_rfl) (by kernel_rfl) (fun _ _ _ _ h => h) (by rfl) ?_; apply Exists.intro; refine ⟨fun w1 h1 K hK => ?_, ?_⟩; · (have q2 : ∀ V : Aft w1, V.val.cell? ⟨g9, 0, none⟩ = some (.int .i64 i) := fun V => (HB9.out.below (HL.out.trans ((hCC _ _ h1 V.below).mono HL.out.size))).cell 0 rfl; have q6 : ∀ V : Aft w1, g9 < V.val.heap.size := fun V => (HB9.out.below (HL.out.trans ((hCC _ _ h1 V.below).mono HL.out.size))).lt; go_big_quiet_op; first | exact hK | fail))
          (refine wpAnyG_take (i := 4) hCC hC0 rfl (by kernel_rfl) (by kernel_rfl) (by kernel_rfl) (fun _ _ _ _ h => h) (by rfl) ?_; apply Exists.intro; refine ⟨fun w1 h1 K hK => ?_, ?_⟩; · ( go_big_quiet_op; first | exact hK | fail))
          (refine wpAnyG_take (i := 5) hCC hC0 rfl (by kernel_rfl) (by kernel_rfl) (by kernel_rfl) (fun _ _ _ _ h => h) (by rfl) ?_; apply Exists.intro; refine ⟨fun w1 h1 K hK => ?_, ?_⟩; · (have q7 : ∀ V : Aft w1, bA < V.val.heap.size := fun V => (HAF.out V.val (HL.out.trans ((hCC _ _ h1 V.below).mono HL.out.size))).1; go_big_quiet_op; first | exact hK | fail))
          (refine wpAnyG_take (i := 6) hCC hC0 rfl (by kernel_rfl) (by kernel_rfl) (by kernel_rfl) (fun _ _ _ _ h => h) (by rfl) ?_; apply Exists.intro; refine ⟨fun w1 h1 K hK => ?_, ?_⟩; · (have q3 : ∀ V : Aft w1, V.val.cell? ⟨bA, oA9 + i * 2, none⟩ = some (.int .i64 olo) := fun V => (HAF.out V.val (HL.out.trans ((hCC _ _ h1 V.below).mono HL.out.size))).2.1; have q7 : ∀ V : Aft w1, bA < V.val.heap.size := fun V => (HAF.out V.val (HL.out.trans ((hCC _ _ h1 V.below).mono HL.out.size))).1; go_big_quiet_op; first | exact hK | fail))
          (refine wpAnyG_take (i := 7) hCC hC0 rfl (by kernel_rfl) (by kernel_rfl) (by kernel_rfl) (fun _ _ _ _ h => h) (by rfl) ?_; apply Exists.intro; refine ⟨fun w1 h1 K hK => ?_, ?_⟩; · ( go_big_quiet_op; first | exact hK | fail))
          (refine wpAnyG_take (i := 8) hCC hC0 rfl (by kernel_rfl) (by kernel_rfl) (by kernel_rfl) (fun _ _ _ _ h => h) (by rfl) ?_; apply Exists.intro; refine ⟨fun w1 h1 K hK => ?_, ?_⟩; · ( go_big_quiet_op; first | exact hK | fail))
          (refine wpAnyG_skip (i := 9) hCC hC0 rfl (by kernel_rfl) (by kernel_rfl) (by kernel_rfl) (fun _ _ _ _ h => h) (by rfl) ?_; go_simp)
          (refine wpAnyG_skip (i := 10) hCC hC0 rfl (by kernel_rfl) (by kernel_rfl) (by kernel_rfl) (fun _ _ _ _ h => h) (by rfl) ?_; go_simp)
          (refine wpAnyG_skip (i := 11) hCC hC0 rfl (by kernel_rfl) (by kernel_rfl) (by kernel_rfl) (fun _ _ _ _ h => h) (by rfl) ?_; go_simp)
          (refine wpAnyG_skip (i := 12) hCC hC0 rfl (by kernel_rfl) (by kernel_rfl) (by kernel_rfl) (fun _ _ _ _ h => h) (by rfl) ?_; go_simp)
          (refine wpAnyG_skip (i := 13) hCC hC0 rfl (by kernel_rfl) (by kernel_rfl) (by kernel_rfl) (fun _ _ _ _ h => h) (by rfl) ?_; go_simp)
          (refine wpAnyG_skip (i := 14) hCC hC0 rfl (by kernel_rfl) (by kernel_rfl) (by kernel_rfl) (fun _ _ _ _ h => h) (by rfl) ?_; go_simp)
          (refine wpAnyG_take (i := 15) hCC hC0 rfl (by kernel_rfl) (by kernel_rfl) (by kernel_rfl) (fun _ _ _ _ h => h) (by rfl) ?_; apply Exists.intro; refine ⟨fun w1 h1 K hK => ?_, ?_⟩; · ( go_big_quiet_op; first | exact hK | fail))
          (refine wpAnyG_take (i := 16) hCC hC0 rfl (by kernel_rfl) (by kernel_rfl) (by kernel_rfl) (fun _ _ _ _ h => h) (by rfl) ?_; apply Exists.intro; refine ⟨fun w1 h1 K hK => ?_, ?_⟩; · ( go_big_quiet_op; first | exact hK | fail))
          (refine wpAnyG_take (i := 17) hCC hC0 rfl (by kernel_rfl) (by kernel_rfl) (by kernel_rfl) (fun _ _ _ _ h => h) (by rfl) ?_; apply Exists.intro; refine ⟨fun w1 h1 K hK => ?_, ?_⟩; · (have q5 : ∀ V : Aft w1, g10 < V.val.heap.size := fun V => (HBX.out.below (hCC _ _ h1 V.below)).lt; go_big_quiet_op; first | exact hK | fail))
          (refine wpAnyG_take (i := 18) hCC hC0 rfl (by kernel_rfl) (by kernel_rfl) (by kernel_rfl) (fun _ _ _ _ h => h) (by rfl) ?_; apply Exists.intro; refine ⟨fun w1 h1 K hK => ?_, ?_⟩; · (have q1 : ∀ V : Aft w1, V.val.cell? ⟨g10, 1, none⟩ = some (.int .i64 dhi) := fun V => (HBX.out.below (hCC _ _ h1 V.below)).cell 1 rfl; have q5 : ∀ V : Aft w1, g10 < V.val.heap.size := fun V => (HBX.out.below (hCC _ _ h1 V.below)).lt; go_big_quiet_op; first | exact hK | fail))
          (refine wpAnyG_take (i := 19) hCC hC0 rfl (by kernel_rfl) (by kernel_rfl) (by kernel_rfl) (fun _ _ _ _ h => h) (by rfl) ?_; apply Exists.intro; refine ⟨fun w1 h1 K hK => ?_, ?_⟩; · ( go_big_quiet_op; first | exact hK | fail))
          (refine wpAnyG_take (i := 20) hCC hC0 rfl (by kernel_rfl) (by kernel_rfl) (by kernel_rfl) (fun _ _ _ _ h => h) (by rfl) ?_; apply Exists.intro; refine ⟨fun w1 h1 K hK => ?_, ?_⟩; · (have q2 : ∀ V : Aft w1, V.val.cell? ⟨g9, 0, none⟩ = some (.int .i64 i) := fun V => (HB9.out.below (HL.out.trans ((hCC _ _ h1 V.below).mono HL.out.size))).cell 0 rfl; have q6 : ∀ V : Aft w1, g9 < V.val.heap.size := fun V => (HB9.out.below (HL.out.trans ((hCC _ _ h1 V.below).mono HL.out.size))).lt; go_big_quiet_op; first | exact hK | fail))
          (refine wpAnyG_take (i := 21) hCC hC0 rfl (by kernel_rfl) (by kernel_rfl) (by kernel_rfl) (fun _ _ _ _ h => h) (by rfl) ?_; apply Exists.intro; refine ⟨fun w1 h1 K hK => ?_, ?_⟩; · ( go_big_quiet_op; first | exact hK | fail))
          (refine wpAnyG_take (i := 22) hCC hC0 rfl (by kernel_rfl) (by kernel_rfl) (by kernel_rfl) (fun _ _ _ _ h => h) (by rfl) ?_; apply Exists.intro; refine ⟨fun w1 h1 K hK => ?_, ?_⟩; · (have q7 : ∀ V : Aft w1, bA < V.val.heap.size := fun V => (HAF.out V.val (HL.out.trans ((hCC _ _ h1 V.below).mono HL.out.size))).1; go_big_quiet_op; first | exact hK | fail))
          (refine wpAnyG_take (i := 23) hCC hC0 rfl (by kernel_rfl) (by kernel_rfl) (by kernel_rfl) (fun _ _ _ _ h => h) (by rfl) ?_; apply Exists.intro; refine ⟨fun w1 h1 K hK => ?_, ?_⟩; · (have q4 : ∀ V : Aft w1, V.val.cell? ⟨bA, oA9 + i * 2 + 1, none⟩ = some (.int .i64 ohi) := fun V => (HAF.out V.val (HL.out.trans ((hCC _ _ h1 V.below).mono HL.out.size))).2.2; have q7 : ∀ V : Aft w1, bA < V.val.heap.size := fun V => (HAF.out V.val (HL.out.trans ((hCC _ _ h1 V.below).mono HL.out.size))).1; go_big_quiet_op; first | exact hK | fail))
          (refine wpAnyG_take (i := 24) hCC hC0 rfl (by kernel_rfl) (by kernel_rfl) (by kernel_rfl) (fun _ _ _ _ h => h) (by rfl) ?_; apply Exists.intro; refine ⟨fun w1 h1 K hK => ?_, ?_⟩; · ( go_big_quiet_op; first | exact hK | fail))
          (refine wpAnyG_take (i := 25) hCC hC0 rfl (by kernel_rfl) (by kernel_rfl) (by kernel_rfl) (fun _ _ _ _ h => h) (by rfl) ?_; apply Exists.intro; refine ⟨fun w1 h1 K hK => ?_, ?_⟩; · ( go_big_quiet_op; first | exact hK | fail))
          (refine wpAnyG_take (i := 26) hCC hC0 rfl (by kernel_rfl) (by kernel_rfl) (by kernel_rfl) (fun _ _ _ _ h => h) (by rfl) ?_; apply Exists.intro; refine ⟨fun w1 h1 K hK => ?_, ?_⟩; · ( go_big_quiet_op; first | exact hK | fail))
          (refine wpAnyG_take (i := 27) hCC hC0 rfl (by kernel_rfl) (by kernel_rfl) (by kernel_rfl) (fun _ _ _ _ h => h) (by rfl) ?_; apply Exists.intro; refine ⟨fun w1 h1 K hK => ?_, ?_⟩; · (have q5 : ∀ V : Aft w1, g10 < V.val.heap.size := fun V => (HBX.out.below (hCC _ _ h1 V.below)).lt; go_big_quiet_op; first | exact hK | fail))
          (refine wpAnyG_take (i := 28) hCC hC0 rfl (by kernel_rfl) (by kernel_rfl) (by kernel_rfl) (fun _ _ _ _ h => h) (by rfl) ?_; apply Exists.intro; refine ⟨fun w1 h1 K hK => ?_, ?_⟩; · (have q1 : ∀ V : Aft w1, V.val.cell? ⟨g10, 1, none⟩ = some (.int .i64 dhi) := fun V => (HBX.out.below (hCC _ _ h1 V.below)).cell 1 rfl; have q5 : ∀ V : Aft w1, g10 < V.val.heap.size := fun V => (HBX.out.below (hCC _ _ h1 V.below)).lt; go_big_quiet_op; first | exact hK | fail))
          (refine wpAnyG_take (i := 29) hCC hC0 rfl (by kernel_rfl) (by kernel_rfl) (by kernel_rfl) (fun _ _ _ _ h => h) (by rfl) ?_; apply Exists.intro; refine ⟨fun w1 h1 K hK => ?_, ?_⟩; · ( go_big_quiet_op; first | exact hK | fail))
          (refine wpAnyG_take (i := 30) hCC hC0 rfl (by kernel_rfl) (by kernel_rfl) (by kernel_rfl) (fun _ _ _ _ h => h) (by rfl) ?_; apply Exists.intro; refine ⟨fun w1 h1 K hK => ?_, ?_⟩; · ( go_big_quiet_op; first | exact hK | exact ⟨_, fun V => aft_call (HUP.out V.val (HL.out.trans ((hCC _ _ h1 V.below).mono HL.out.size)) hhi), hK⟩))
          (refine wpAnyG_take (i := 31) hCC hC0 rfl (by kernel_rfl) (by kernel_rfl) (by kernel_rfl) (fun _ _ _ _ h => h) (by rfl) ?_; apply Exists.intro; refine ⟨fun w1 h1 K hK => ?_, ?_⟩; · ( go_big_quiet_op; first | exact hK | fail))
          (refine wpAnyG_take (i := 32) hCC hC0 rfl (by kernel_rfl) (by kernel_rfl) (by kernel_rfl) (fun _ _ _ _ h => h) (by rfl) ?_; apply Exists.intro; refine ⟨fun w1 h1 K hK => ?_, ?_⟩; · ( go_big_quiet_op; first | exact hK | fail))
          (refine wpAnyG_take (i := 33) hCC hC0 rfl (by kernel_rfl) (by kernel_rfl) (by kernel_rfl) (fun _ _ _ _ h => h) (by rfl) ?_; apply Exists.intro; refine ⟨fun w1 h1 K hK => ?_, ?_⟩; · ( go_big_quiet_op; first | exact hK | fail))
          (refine wpAnyG_take (i := 34) hCC hC0 rfl (by kernel_rfl) (by kernel_rfl) (by kernel_rfl) (fun _ _ _ _ h => h) (by rfl) ?_; apply Exists.intro; refine ⟨fun w1 h1 K hK => ?_, ?_⟩; · ( go_big_quiet_op; first | exact hK | fail))
          (refine wpAnyG_take (i := 35) hCC hC0 rfl (by kernel_rfl) (by kernel_rfl) (by kernel_rfl) (fun _ _ _ _ h => h) (by rfl) ?_; apply Exists.intro; refine ⟨fun w1 h1 K hK => ?_, ?_⟩; · ( go_big_quiet_op; first | exact hK | exact ⟨_, fun V => aft_call (awake_any V.val), hK⟩))
          (refine wpAnyG_take (i := 36) hCC hC0 rfl (by kernel_rfl) (by kernel_rfl) (by kernel_rfl) (fun _ _ _ _ h => h) (by rfl) ?_; apply Exists.intro; refine ⟨fun w1 h1 K hK => ?_, ?_⟩; · ( go_big_quiet_op; first | exact hK | fail))
          (refine wpAnyG_take (i := 37) hCC hC0 rfl (by kernel_rfl) (by kernel_rfl) (by kernel_rfl) (fun _ _ _ _ h => h) (by rfl) ?_; apply Exists.intro; refine ⟨fun w1 h1 K hK => ?_, ?_⟩; · ( go_big_quiet_op; first | exact hK | fail))
          refine wpAnyG_done (by kernel_rfl) (fun wz hwz => ?_) _
          have HZ := Lib.hid (HF.out.on (HL.out.trans ((hCC _ _ hC0 hwz).mono HL.out.size)))
          clear hCC hC0 hwz
          go_wp2_with fail
          go_ret
          exact ⟨rfl, HZ.out.low⟩
      · replace hlo : olo < dlo := by omega
        by_cases hhi : dhi = ohi
        · skip
          as_aux_lemma =>
          have b1 : (dlo == olo) = false := by simp; omega
          have b2 : (dhi == ohi) = true := by simpa using hhi
          have hCC : ∀ A B : World, Below W3.heap.size W3 A → Below A.heap.size A B → Below W3.heap.size W3 B := fun A B h1 h2 => h1.trans (h2.mono h1.size)
          have hC0 : Below W3.heap.size W3 W3.drew := (Below.refl _ _).drew
          refine wp_region_garb (Below W3.heap.size W3) (by kernel_rfl) ?_
          (refine wpAnyG_take (i := 0) hCC hC0 rfl (by kernel_rfl) (by kernel_rfl) (by kernel_rfl) (fun _ _ _ _ h => h) (by rfl) ?_; apply Exists.intro; refine ⟨fun w1 h1 K hK => ?_, ?_⟩; · (have q5 : ∀ V : Aft w1, g10 < V.val.heap.size := fun V => (HBX.out.below (hCC _ _ h1 V.below)).lt; go_big_quiet_op; first | exact hK | fail))
          (refine wpAnyG_take (i := 1) hCC hC0 rfl (by kernel_rfl) (by kernel_rfl) (by kernel_rfl) (fun _ _ _ _ h => h) (by rfl) ?_; apply Exists.intro; refine ⟨fun w1 h1 K hK => ?_, ?_⟩; · (have q0 : ∀ V : Aft w1, V.val.cell? ⟨g10, 0, none⟩ = some (.int .i64 dlo) := fun V => (HBX.out.below (hCC _ _ h1 V.below)).cell 0 rfl; have q5 : ∀ V : Aft w1, g10 < V.val.heap.size := fun V => (HBX.out.below (hCC _ _ h1 V.below)).lt; go_big_quiet_op; first | exact hK | fail))
          (refine wpAnyG_take (i := 2) hCC hC0 rfl (by kernel_rfl) (by kernel_rfl) (by kernel_rfl) (fun _ _ _ _ h => h) (by rfl) ?_; apply Exists.intro; refine ⟨fun w1 h1 K hK => ?_, ?_⟩; · ( go_big_quiet_op; first | exact hK | fail))
          (refine wpAnyG_take (i := 3) hCC hC0 rfl (by kernel_rfl) (by kernel_rfl) (by kernel_rfl) (fun _ _ _ _ h => h) (by rfl) ?_; apply Exists.intro; refine ⟨fun w1 h1 K hK => ?_, ?_⟩; · (have q2 : ∀ V : Aft w1, V.val.cell? ⟨g9, 0, none⟩ = some (.int .i64 i) := fun V => (HB9.out.below (HL.out.trans ((hCC _ _ h1 V.below).mono HL.out.size))).cell 0 rfl; have q6 : ∀ V : Aft w1, g9 < V.val.heap.size := fun V => (HB9.out.below (HL.out.trans ((hCC _ _ h1 V.below).mono HL.out.size))).lt; go_big_quiet_op; first | exact hK | fail))
          (refine wpAnyG_take (i := 4) hCC hC0 rfl (by kernel_rfl) (by kernel_rfl) (by kernel_rfl) (fun _ _ _ _ h => h) (by rfl) ?_; apply Exists.intro; refine ⟨fun w1 h1 K hK => ?_, ?_⟩; · ( go_big_quiet_op; first | exact hK | fail))
          (refine wpAnyG_take (i := 5) hCC hC0 rfl (by kernel_rfl) (by kernel_rfl) (by kernel_rfl) (fun _ _ _ _ h => h) (by rfl) ?_; apply Exists.intro; refine ⟨fun w1 h1 K hK => ?_, ?_⟩; · (have q7 : ∀ V : Aft w1, bA < V.val.heap.size := fun V => (HAF.out V.val (HL.out.trans ((hCC _ _ h1 V.below).mono HL.out.size))).1; go_big_quiet_op; first | exact hK | fail))
          (refine wpAnyG_take (i := 6) hCC hC0 rfl (by kernel_rfl) (by kernel_rfl) (by kernel_rfl) (fun _ _ _ _ h => h) (by rfl) ?_; apply Exists.intro; refine ⟨fun w1 h1 K hK => ?_, ?_⟩; · (have q3 : ∀ V : Aft w1, V.val.cell? ⟨bA, oA9 + i * 2, none⟩ = some (.int .i64 olo) := fun V => (HAF.out V.val (HL.out.trans ((hCC _ _ h1 V.below).mono HL.out.size))).2.1; have q7 : ∀ V : Aft w1, bA < V.val.heap.size := fun V => (HAF.out V.val (HL.out.trans ((hCC _ _ h1 V.below).mono HL.out.size))).1; go_big_quiet_op; first | exact hK | fail))
          (refine wpAnyG_take (i := 7) hCC hC0 rfl (by kernel_rfl) (by kernel_rfl) (by kernel_rfl) (fun _ _ _ _ h => h) (by rfl) ?_; apply Exists.intro; refine ⟨fun w1 h1 K hK => ?_, ?_⟩; · ( go_big_quiet_op; first | exact hK | fail))
          (refine wpAnyG_take (i := 8) hCC hC0 rfl (by kernel_rfl) (by kernel_rfl) (by kernel_rfl) (fun _ _ _ _ h => h) (by rfl) ?_; apply Exists.intro; refine ⟨fun w1 h1 K hK => ?_, ?_⟩; · ( go_big_quiet_op; first | exact hK | fail))
          (refine wpAnyG_take (i := 9) hCC hC0 rfl (by kernel_rfl) (by kernel_rfl) (by kernel_rfl) (fun _ _ _ _ h => h) (by rfl) ?_; apply Exists.intro; refine ⟨fun w1 h1 K hK => ?_, ?_⟩; · ( go_big_quiet_op; first | exact hK | fail))
          (refine wpAnyG_take (i := 10) hCC hC0 rfl (by kernel_rfl) (by kernel_rfl) (by kernel_rfl) (fun _ _ _ _ h => h) (by rfl) ?_; apply Exists.intro; refine ⟨fun w1 h1 K hK => ?_, ?_⟩; · (have q5 : ∀ V : Aft w1, g10 < V.val.heap.size := fun V => (HBX.out.below (hCC _ _ h1 V.below)).lt; go_big_quiet_op; first | exact hK | fail))
          (refine wpAnyG_take (i := 11) hCC hC0 rfl (by kernel_rfl) (by kernel_rfl) (by kernel_rfl) (fun _ _ _ _ h => h) (by rfl) ?_; apply Exists.intro; refine ⟨fun w1 h1 K hK => ?_, ?_⟩; · (have q0 : ∀ V : Aft w1, V.val.cell? ⟨g10, 0, none⟩ = some (.int .i64 dlo) := fun V => (HBX.out.below (hCC _ _ h1 V.below)).cell 0 rfl; have q5 : ∀ V : Aft w1, g10 < V.val.heap.size := fun V => (HBX.out.below (hCC _ _ h1 V.below)).lt; go_big_quiet_op; first | exact hK | fail))
          (refine wpAnyG_take (i := 12) hCC hC0 rfl (by kernel_rfl) (by kernel_rfl) (by kernel_rfl) (fun _ _ _ _ h => h) (by rfl) ?_; apply Exists.intro; refine ⟨fun w1 h1 K hK => ?_, ?_⟩; · ( go_big_quiet_op; first | exact hK | fail))
          (refine wpAnyG_take (i := 13) hCC hC0 rfl (by kernel_rfl) (by kernel_rfl) (by kernel_rfl) (fun _ _ _ _ h => h) (by rfl) ?_; apply Exists.intro; refine ⟨fun w1 h1 K hK => ?_, ?_⟩; · ( go_big_quiet_op; first | exact hK | exact ⟨_, fun V => aft_call (HDN.out V.val (HL.out.trans ((hCC _ _ h1 V.below).mono HL.out.size)) hlo), hK⟩))
          (refine wpAnyG_take (i := 14) hCC hC0 rfl (by kernel_rfl) (by kernel_rfl) (by kernel_rfl) (fun _ _ _ _ h => h) (by rfl) ?_; apply Exists.intro; refine ⟨fun w1 h1 K hK => ?_, ?_⟩; · ( go_big_quiet_op; first | exact hK | fail))
          (refine wpAnyG_take (i := 15) hCC hC0 rfl (by kernel_rfl) (by kernel_rfl) (by kernel_rfl) (fun _ _ _ _ h => h) (by rfl) ?_; apply Exists.intro; refine ⟨fun w1 h1 K hK => ?_, ?_⟩; · ( go_big_quiet_op; first | exact hK | fail))
          (refine wpAnyG_take (i := 16) hCC hC0 rfl (by kernel_rfl) (by kernel_rfl) (by kernel_rfl) (fun _ _ _ _ h => h) (by rfl) ?_; apply Exists.intro; refine ⟨fun w1 h1 K hK => ?_, ?_⟩; · ( go_big_quiet_op; first | exact hK | fail))
          (refine wpAnyG_take (i := 17) hCC hC0 rfl (by kernel_rfl) (by kernel_rfl) (by kernel_rfl) (fun _ _ _ _ h => h) (by rfl) ?_; apply Exists.intro; refine ⟨fun w1 h1 K hK => ?_, ?_⟩; · (have q5 : ∀ V : Aft w1, g10 < V.val.heap.size := fun V => (HBX.out.below (hCC _ _ h1 V.below)).lt; go_big_quiet_op; first | exact hK | fail))
          (refine wpAnyG_take (i := 18) hCC hC0 rfl (by kernel_rfl) (by kernel_rfl) (by kernel_rfl) (fun _ _ _ _ h => h) (by rfl) ?_; apply Exists.intro; refine ⟨fun w1 h1 K hK => ?_, ?_⟩; · (have q1 : ∀ V : Aft w1, V.val.cell? ⟨g10, 1, none⟩ = some (.int .i64 dhi) := fun V => (HBX.out.below (hCC _ _ h1 V.below)).cell 1 rfl; have q5 : ∀ V : Aft w1, g10 < V.val.heap.size := fun V => (HBX.out.below (hCC _ _ h1 V.below)).lt; go_big_quiet_op; first | exact hK | fail))
          (refine wpAnyG_take (i := 19) hCC hC0 rfl (by kernel_rfl) (by kernel_rfl) (by kernel_rfl) (fun _ _ _ _ h => h) (by rfl) ?_; apply Exists.intro; refine ⟨fun w1 h1 K hK => ?_, ?_⟩; · ( go_big_quiet_op; first | exact hK | fail))
          (refine wpAnyG_take (i := 20) hCC hC0 rfl (by kernel_rfl) (by kernel_rfl) (by kernel_rfl) (fun _ _ _ _ h => h) (by rfl) ?_; apply Exists.intro; refine ⟨fun w1 h1 K hK => ?_, ?_⟩; · (have q2 : ∀ V : Aft w1, V.val.cell? ⟨g9, 0, none⟩ = some (.int .i64 i) := fun V => (HB9.out.below (HL.out.trans ((hCC _ _ h1 V.below).mono HL.out.size))).cell 0 rfl; have q6 : ∀ V : Aft w1, g9 < V.val.heap.size := fun V => (HB9.out.below (HL.out.trans ((hCC _ _ h1 V.below).mono HL.out.size))).lt; go_big_quiet_op; first | exact hK | fail))
          (refine wpAnyG_take (i := 21) hCC hC0 rfl (by kernel_rfl) (by kernel_rfl) (by kernel_rfl) (fun _ _ _ _ h => h) (by rfl) ?_; apply Exists.intro; refine ⟨fun w1 h1 K hK => ?_, ?_⟩; · ( go_big_quiet_op; first | exact hK | fail))
          (refine wpAnyG_take (i := 22) hCC hC0 rfl (by kernel_rfl) (by kernel_rfl) (by kernel_rfl) (fun _ _ _ _ h => h) (by rfl) ?_; apply Exists.intro; refine ⟨fun w1 h1 K hK => ?_, ?_⟩; · (have q7 : ∀ V : Aft w1, bA < V.val.heap.size := fun V => (HAF.out V.val (HL.out.trans ((hCC _ _ h1 V.below).mono HL.out.size))).1; go_big_quiet_op; first | exact hK | fail))
          (refine wpAnyG_take (i := 23) hCC hC0 rfl (by kernel_rfl) (by kernel_rfl) (by kernel_rfl) (fun _ _ _ _ h => h) (by rfl) ?_; apply Exists.intro; refine ⟨fun w1 h1 K hK => ?_, ?_⟩; · (have q4 : ∀ V : Aft w1, V.val.cell? ⟨bA, oA9 + i * 2 + 1, none⟩ = some (.int .i64 ohi) := fun V => (HAF.out V.val (HL.out.trans ((hCC _ _ h1 V.below).mono HL.out.size))).2.2; have q7 : ∀ V : Aft w1, bA < V.val.heap.size := fun V => (HAF.out V.val (HL.out.trans ((hCC _ _ h1 V.below).mono HL.out.size))).1; go_big_quiet_op; first | exact hK | fail))
          (refine wpAnyG_take (i := 24) hCC hC0 rfl (by kernel_rfl) (by kernel_rfl) (by kernel_rfl) (fun _ _ _ _ h => h) (by rfl) ?_; apply Exists.intro; refine ⟨fun w1 h1 K hK => ?_, ?_⟩; · ( go_big_quiet_op; first | exact hK | fail))
          (refine wpAnyG_take (i := 25) hCC hC0 rfl (by kernel_rfl) (by kernel_rfl) (by kernel_rfl) (fun _ _ _ _ h => h) (by rfl) ?_; apply Exists.intro; refine ⟨fun w1 h1 K hK => ?_, ?_⟩; · ( go_big_quiet_op; first | exact hK | fail))
          (refine wpAnyG_skip (i := 26) hCC hC0 rfl (by kernel_rfl) (by kernel_rfl) (by kernel_rfl) (fun _ _ _ _ h => h) (by rfl) ?_; go_simp)
          (refine wpAnyG_skip (i := 27) hCC hC0 rfl (by kernel_rfl) (by kernel_rfl) (by kernel_rfl) (fun _ _ _ _ h => h) (by rfl) ?_; go_simp)
          (refine wpAnyG_skip (i := 28) hCC hC0 rfl (by kernel_rfl) (by kernel_rfl) (by kernel_rfl) (fun _ _ _ _ h => h) (by rfl) ?_; go_simp)
          (refine wpAnyG_skip (i := 29) hCC hC0 rfl (by kernel_rfl) (by kernel_rfl) (by kernel_rfl) (fun _ _ _ _ h => h) (by rfl) ?_; go_simp)
          (refine wpAnyG_skip (i := 30) hCC hC0 rfl (by kernel_rfl) (by kernel_rfl) (by kernel_rfl) (fun _ _ _ _ h => h) (by rfl) ?_; go_simp)
          (refine wpAnyG_skip (i := 31) hCC hC0 rfl (by kernel_rfl) (by kernel_rfl) (by kernel_rfl) (fun _ _ _ _ h => h) (by rfl) ?_; go_simp)
          (refine wpAnyG_take (i := 32) hCC hC0 rfl (by kernel_rfl) (by kernel_rfl) (by kernel_rfl) (fun _ _ _ _ h => h) (by rfl) ?_; apply Exists.intro; refine ⟨fun w1 h1 K hK => ?_, ?_⟩; · ( go_big_quiet_op; first | exact hK | fail))
          (refine wpAnyG_take (i := 33) hCC hC0 rfl (by kernel_rfl) (by kernel_rfl) (by kernel_rfl) (fun _ _ _ _ h => h) (by rfl) ?_; apply Exists.intro; refine ⟨fun w1 h1 K hK => ?_, ?_⟩; · ( go_big_quiet_op; first | exact hK | fail))
          (refine wpAnyG_take (i := 34) hCC hC0 rfl (by kernel_rfl) (by kernel_rfl) (by kernel_rfl) (fun _ _ _ _ h => h) (by rfl) ?_; apply Exists.intro; refine ⟨fun w1 h1 K hK => ?_, ?_⟩; · ( go_big_quiet_op; first | exact hK | fail))
          (refine wpAnyG_take (i := 35) hCC hC0 rfl (by kernel_rfl) (by kernel_rfl) (by kernel_rfl) (fun _ _ _ _ h => h) (by rfl) ?_; apply Exists.intro; refine ⟨fun w1 h1 K hK => ?_, ?_⟩; · ( go_big_quiet_op; first | exact hK | exact ⟨_, fun V => aft_call (awake_any V.val), hK⟩))
          (refine wpAnyG_take (i := 36) hCC hC0 rfl (by kernel_rfl) (by kernel_rfl) (by kernel_rfl) (fun _ _ _ _ h => h) (by rfl) ?_; apply Exists.intro; refine ⟨fun w1 h1 K hK => ?_, ?_⟩; · ( go_big_quiet_op; first | exact hK | fail))
          (refine wpAnyG_take (i := 37) hCC hC0 rfl (by kernel_rfl) (by kernel_rfl) (by kernel_rfl) (fun _ _ _ _ h => h) (by rfl) ?_; apply Exists.intro; refine ⟨fun w1 h1 K hK => ?_, ?_⟩; · ( go_big_quiet_op; first | exact hK | fail))
          refine wpAnyG_done (by kernel_rfl) (fun wz hwz => ?_) _
          have HZ := Lib.hid (HF.out.on (HL.out.trans ((hCC _ _ hC0 hwz).mono HL.out.size)))
          clear hCC hC0 hwz
          go_wp2_with fail
          go_ret
          exact ⟨rfl, HZ.out.low⟩
        · replace hhi : dhi < ohi := by omega
          as_aux_lemma =>
          have b1 : (dlo == olo) = false := by simp; omega
          have b2 : (dhi == ohi) = false := by simp; omega
          have hCC : ∀ A B : World, Below W3.heap.size W3 A → Below A.heap.size A B → Below W3.heap.size W3 B := fun A B h1 h2 => h1.trans (h2.mono h1.size)
          have hC0 : Below W3.heap.size W3 W3.drew := (Below.refl _ _).drew
          refine wp_region_garb (Below W3.heap.size W3) (by kernel_rfl) ?_
          (refine wpAnyG_take (i := 0) hCC hC0 rfl (by kernel_rfl) (by kernel_rfl) (by kernel_rfl) (fun _ _ _ _ h => h) (by rfl) ?_; apply Exists.intro; refine ⟨fun w1 h1 K hK => ?_, ?_⟩; · (have q5 : ∀ V : Aft w1, g10 < V.val.heap.size := fun V => (HBX.out.below (hCC _ _ h1 V.below)).lt; go_big_quiet_op; first | exact hK | fail))
          (refine wpAnyG_take (i := 1) hCC hC0 rfl (by kernel_rfl) (by kernel_rfl) (by kernel_rfl) (fun _ _ _ _ h => h) (by rfl) ?_; apply Exists.intro; refine ⟨fun w1 h1 K hK => ?_, ?_⟩; · (have q0 : ∀ V : Aft w1, V.val.cell? ⟨g10, 0, none⟩ = some (.int .i64 dlo) := fun V => (HBX.out.below (hCC _ _ h1 V.below)).cell 0 rfl; have q5 : ∀ V : Aft w1, g10 < V.val.heap.size := fun V => (HBX.out.below (hCC _ _ h1 V.below)).lt; go_big_quiet_op; first | exact hK | fail))
          (refine wpAnyG_take (i := 2) hCC hC0 rfl (by kernel_rfl) (by kernel_rfl) (by kernel_rfl) (fun _ _ _ _ h => h) (by rfl) ?_; apply Exists.intro; refine ⟨fun w1 h1 K hK => ?_, ?_⟩; · ( go_big_quiet_op; first | exact hK | fail))
          (refine wpAnyG_take (i := 3) hCC hC0 rfl (by kernel_rfl) (by kernel_rfl) (by kernel_rfl) (fun _ _ _ _ h => h) (by rfl) ?_; apply Exists.intro; refine ⟨fun w1 h1 K hK => ?_, ?_⟩; · (have q2 : ∀ V : Aft w1, V.val.cell? ⟨g9, 0, none⟩ = some (.int .i64 i) := fun V => (HB9.out.below (HL.out.trans ((hCC _ _ h1 V.below).mono HL.out.size))).cell 0 rfl; have q6 : ∀ V : Aft w1, g9 < V.val.heap.size := fun V => (HB9.out.below (HL.out.trans ((hCC _ _ h1 V.below).mono HL.out.size))).lt; go_big_quiet_op; first | exact hK | fail))
          (refine wpAnyG_take (i := 4) hCC hC0 rfl (by kernel_rfl) (by kernel_rfl) (by kernel_rfl) (fun _ _ _ _ h => h) (by rfl) ?_; apply Exists.intro; refine ⟨fun w1 h1 K hK => ?_, ?_⟩; · ( go_big_quiet_op; first | exact hK | fail))
          (refine wpAnyG_take (i := 5) hCC hC0 rfl (by kernel_rfl) (by kernel_rfl) (by kernel_rfl) (fun _ _ _ _ h => h) (by rfl) ?_; apply Exists.intro; refine ⟨fun w1 h1 K hK => ?_, ?_⟩; · (have q7 : ∀ V : Aft w1, bA < V.val.heap.size := fun V => (HAF.out V.val (HL.out.trans ((hCC _ _ h1 V.below).mono HL.out.size))).1; go_big_quiet_op; first | exact hK | fail))
          (refine wpAnyG_take (i := 6) hCC hC0 rfl (by kernel_rfl) (by kernel_rfl) (by kernel_rfl) (fun _ _ _ _ h => h) (by rfl) ?_; apply Exists.intro; refine ⟨fun w1 h1 K hK => ?_, ?_⟩; · (have q3 : ∀ V : Aft w1, V.val.cell? ⟨bA, oA9 + i * 2, none⟩ = some (.int .i64 olo) := fun V => (HAF.out V.val (HL.out.trans ((hCC _ _ h1 V.below).mono HL.out.size))).2.1; have q7 : ∀ V : Aft w1, bA < V.val.heap.size := fun V => (HAF.out V.val (HL.out.trans ((hCC _ _ h1 V.below).mono HL.out.size))).1; go_big_quiet_op; first | exact hK | fail))
          (refine wpAnyG_take (i := 7) hCC hC0 rfl (by kernel_rfl) (by kernel_rfl) (by kernel_rfl) (fun _ _ _ _ h => h) (by rfl) ?_; apply Exists.intro; refine ⟨fun w1 h1 K hK => ?_, ?_⟩; · ( go_big_quiet_op; first | exact hK | fail))
          (refine wpAnyG_take (i := 8) hCC hC0 rfl (by kernel_rfl) (by kernel_rfl) (by kernel_rfl) (fun _ _ _ _ h => h) (by rfl) ?_; apply Exists.intro; refine ⟨fun w1 h1 K hK => ?_, ?_⟩; · ( go_big_quiet_op; first | exact hK | fail))
          (refine wpAnyG_take (i := 9) hCC hC0 rfl (by kernel_rfl) (by kernel_rfl) (by kernel_rfl) (fun _ _ _ _ h => h) (by rfl) ?_; apply Exists.intro; refine ⟨fun w1 h1 K hK => ?_, ?_⟩; · ( go_big_quiet_op; first | exact hK | fail))
          (refine wpAnyG_take (i := 10) hCC hC0 rfl (by kernel_rfl) (by kernel_rfl) (by kernel_rfl) (fun _ _ _ _ h => h) (by rfl) ?_; apply Exists.intro; refine ⟨fun w1 h1 K hK => ?_, ?_⟩; · (have q5 : ∀ V : Aft w1, g10 < V.val.heap.size := fun V => (HBX.out.below (hCC _ _ h1 V.below)).lt; go_big_quiet_op; first | exact hK | fail))
          (refine wpAnyG_take (i := 11) hCC hC0 rfl (by kernel_rfl) (by kernel_rfl) (by kernel_rfl) (fun _ _ _ _ h => h) (by rfl) ?_; apply Exists.intro; refine ⟨fun w1 h1 K hK => ?_, ?_⟩; · (have q0 : ∀ V : Aft w1, V.val.cell? ⟨g10, 0, none⟩ = some (.int .i64 dlo) := fun V => (HBX.out.below (hCC _ _ h1 V.below)).cell 0 rfl; have q5 : ∀ V : Aft w1, g10 < V.val.heap.size := fun V => (HBX.out.below (hCC _ _ h1 V.below)).lt; go_big_quiet_op; first | exact hK | fail))
          (refine wpAnyG_take (i := 12) hCC hC0 rfl (by kernel_rfl) (by kernel_rfl) (by kernel_rfl) (fun _ _ _ _ h => h) (by rfl) ?_; apply Exists.intro; refine ⟨fun w1 h1 K hK => ?_, ?_⟩; · ( go_big_quiet_op; first | exact hK | fail))
          (refine wpAnyG_take (i := 13) hCC hC0 rfl (by kernel_rfl) (by kernel_rfl) (by kernel_rfl) (fun _ _ _ _ h => h) (by rfl) ?_; apply Exists.intro; refine ⟨fun w1 h1 K hK => ?_, ?_⟩; · ( go_big_quiet_op; first | exact hK | exact ⟨_, fun V => aft_call (HDN.out V.val (HL.out.trans ((hCC _ _ h1 V.below).mono HL.out.size)) hlo), hK⟩))
          (refine wpAnyG_take (i := 14) hCC hC0 rfl (by kernel_rfl) (by kernel_rfl) (by kernel_rfl) (fun _ _ _ _ h => h) (by rfl) ?_; apply Exists.intro; refine ⟨fun w1 h1 K hK => ?_, ?_⟩; · ( go_big_quiet_op; first | exact hK | fail))
          (refine wpAnyG_take (i := 15) hCC hC0 rfl (by kernel_rfl) (by kernel_rfl) (by kernel_rfl) (fun _ _ _ _ h => h) (by rfl) ?_; apply Exists.intro; refine ⟨fun w1 h1 K hK => ?_, ?_⟩; · ( go_big_quiet_op; first | exact hK | fail))
          (refine wpAnyG_take (i := 16) hCC hC0 rfl (by kernel_rfl) (by kernel_rfl) (by kernel_rfl) (fun _ _ _ _ h => h) (by rfl) ?_; apply Exists.intro; refine ⟨fun w1 h1 K hK => ?_, ?_⟩; · ( go_big_quiet_op; first | exact hK | fail))
          (refine wpAnyG_take (i := 17) hCC hC0 rfl (by kernel_rfl) (by kernel_rfl) (by kernel_rfl) (fun _ _ _ _ h => h) (by rfl) ?_; apply Exists.intro; refine ⟨fun w1 h1 K hK => ?_, ?_⟩; · (have q5 : ∀ V : Aft w1, g10 < V.val.heap.size := fun V => (HBX.out.below (hCC _ _ h1 V.below)).lt; go_big_quiet_op; first | exact hK | fail))
          (refine wpAnyG_take (i := 18) hCC hC0 rfl (by kernel_rfl) (by kernel_rfl) (by kernel_rfl) (fun _ _ _ _ h => h) (by rfl) ?_; apply Exists.intro; refine ⟨fun w1 h1 K hK => ?_, ?_⟩; · (have q1 : ∀ V : Aft w1, V.val.cell? ⟨g10, 1, none⟩ = some (.int .i64 dhi) := fun V => (HBX.out.below (hCC _ _ h1 V.below)).cell 1 rfl; have q5 : ∀ V : Aft w1, g10 < V.val.heap.size := fun V => (HBX.out.below (hCC _ _ h1 V.below)).lt; go_big_quiet_op; first | exact hK | fail))
          (refine wpAnyG_take (i := 19) hCC hC0 rfl (by kernel_rfl) (by kernel_rfl) (by kernel_rfl) (fun _ _ _ _ h => h) (by rfl) ?_; apply Exists.intro; refine ⟨fun w1 h1 K hK => ?_, ?_⟩; · ( go_big_quiet_op; first | exact hK | fail))
          (refine wpAnyG_take (i := 20) hCC hC0 rfl (by kernel_rfl) (by kernel_rfl) (by kernel_rfl) (fun _ _ _ _ h => h) (by rfl) ?_; apply Exists.intro; refine ⟨fun w1 h1 K hK => ?_, ?_⟩; · (have q2 : ∀ V : Aft w1, V.val.cell? ⟨g9, 0, none⟩ = some (.int .i64 i) := fun V => (HB9.out.below (HL.out.trans ((hCC _ _ h1 V.below).mono HL.out.size))).cell 0 rfl; have q6 : ∀ V : Aft w1, g9 < V.val.heap.size := fun V => (HB9.out.below (HL.out.trans ((hCC _ _ h1 V.below).mono HL.out.size))).lt; go_big_quiet_op; first | exact hK | fail))
          (refine wpAnyG_take (i := 21) hCC hC0 rfl (by kernel_rfl) (by kernel_rfl) (by kernel_rfl) (fun _ _ _ _ h => h) (by rfl) ?_; apply Exists.intro; refine ⟨fun w1 h1 K hK => ?_, ?_⟩; · ( go_big_quiet_op; first | exact hK | fail))
          (refine wpAnyG_take (i := 22) hCC hC0 rfl (by kernel_rfl) (by kernel_rfl) (by kernel_rfl) (fun _ _ _ _ h => h) (by rfl) ?_; apply Exists.intro; refine ⟨fun w1 h1 K hK => ?_, ?_⟩; · (have q7 : ∀ V : Aft w1, bA < V.val.heap.size := fun V => (HAF.out V.val (HL.out.trans ((hCC _ _ h1 V.below).mono HL.out.size))).1; go_big_quiet_op; first | exact hK | fail))
          (refine wpAnyG_take (i := 23) hCC hC0 rfl (by kernel_rfl) (by kernel_rfl) (by kernel_rfl) (fun _ _ _ _ h => h) (by rfl) ?_; apply Exists.intro; refine ⟨fun w1 h1 K hK => ?_, ?_⟩; · (have q4 : ∀ V : Aft w1, V.val.cell? ⟨bA, oA9 + i * 2 + 1, none⟩ = some (.int .i64 ohi) := fun V => (HAF.out V.val (HL.out.trans ((hCC _ _ h1 V.below).mono HL.out.size))).2.2; have q7 : ∀ V : Aft w1, bA < V.val.heap.size := fun V => (HAF.out V.val (HL.out.trans ((hCC _ _ h1 V.below).mono HL.out.size))).1; go_big_quiet_op; first | exact hK | fail))
          (refine wpAnyG_take (i := 24) hCC hC0 rfl (by kernel_rfl) (by kernel_rfl) (by kernel_rfl) (fun _ _ _ _ h => h) (by rfl) ?_; apply Exists.intro; refine ⟨fun w1 h1 K hK => ?_, ?_⟩; · ( go_big_quiet_op; first | exact hK | fail))
          (refine wpAnyG_take (i := 25) hCC hC0 rfl (by kernel_rfl) (by kernel_rfl) (by kernel_rfl) (fun _ _ _ _ h => h) (by rfl) ?_; apply Exists.intro; refine ⟨fun w1 h1 K hK => ?_, ?_⟩; · ( go_big_quiet_op; first | exact hK | fail))
          (refine wpAnyG_take (i := 26) hCC hC0 rfl (by kernel_rfl) (by kernel_rfl) (by kernel_rfl) (fun _ _ _ _ h => h) (by rfl) ?_; apply Exists.intro; refine ⟨fun w1 h1 K hK => ?_, ?_⟩; · ( go_big_quiet_op; first | exact hK | fail))
          (refine wpAnyG_take (i := 27) hCC hC0 rfl (by kernel_rfl) (by kernel_rfl) (by kernel_rfl) (fun _ _ _ _ h => h) (by rfl) ?_; apply Exists.intro; refine ⟨fun w1 h1 K hK => ?_, ?_⟩; · (have q5 : ∀ V : Aft w1, g10 < V.val.heap.size := fun V => (HBX.out.below (hCC _ _ h1 V.below)).lt; go_big_quiet_op; first | exact hK | fail))
          (refine wpAnyG_take (i := 28) hCC hC0 rfl (by kernel_rfl) (by kernel_rfl) (by kernel_rfl) (fun _ _ _ _ h => h) (by rfl) ?_; apply Exists.intro; refine ⟨fun w1 h1 K hK => ?_, ?_⟩; · (have q1 : ∀ V : Aft w1, V.val.cell? ⟨g10, 1, none⟩ = some (.int .i64 dhi) := fun V => (HBX.out.below (hCC _ _ h1 V.below)).cell 1 rfl; have q5 : ∀ V : Aft w1, g10 < V.val.heap.size := fun V => (HBX.out.below (hCC _ _ h1 V.below)).lt; go_big_quiet_op; first | exact hK | fail))
          (refine wpAnyG_take (i := 29) hCC hC0 rfl (by kernel_rfl) (by kernel_rfl) (by kernel_rfl) (fun _ _ _ _ h => h) (by rfl) ?_; apply Exists.intro; refine ⟨fun w1 h1 K hK => ?_, ?_⟩; · ( go_big_quiet_op; first | exact hK | fail))
          (refine wpAnyG_take (i := 30) hCC hC0 rfl (by kernel_rfl) (by kernel_rfl) (by kernel_rfl) (fun _ _ _ _ h => h) (by rfl) ?_; apply Exists.intro; refine ⟨fun w1 h1 K hK => ?_, ?_⟩; · ( go_big_quiet_op; first | exact hK | exact ⟨_, fun V => aft_call (HUP.out V.val (HL.out.trans ((hCC _ _ h1 V.below).mono HL.out.size)) hhi), hK⟩))
          (refine wpAnyG_take (i := 31) hCC hC0 rfl (by kernel_rfl) (by kernel_rfl) (by kernel_rfl) (fun _ _ _ _ h => h) (by rfl) ?_; apply Exists.intro; refine ⟨fun w1 h1 K hK => ?_, ?_⟩; · ( go_big_quiet_op; first | exact hK | fail))
          (refine wpAnyG_take (i := 32) hCC hC0 rfl (by kernel_rfl) (by kernel_rfl) (by kernel_rfl) (fun _ _ _ _ h => h) (by rfl) ?_; apply Exists.intro; refine ⟨fun w1 h1 K hK => ?_, ?_⟩; · ( go_big_quiet_op; first | exact hK | fail))
          (refine wpAnyG_take (i := 33) hCC hC0 rfl (by kernel_rfl) (by kernel_rfl) (by kernel_rfl) (fun _ _ _ _ h => h) (by rfl) ?_; apply Exists.intro; refine ⟨fun w1 h1 K hK => ?_, ?_⟩; · ( go_big_quiet_op; first | exact hK | fail))
          (refine wpAnyG_take (i := 34) hCC hC0 rfl (by kernel_rfl) (by kernel_rfl) (by kernel_rfl) (fun _ _ _ _ h => h) (by rfl) ?_; apply Exists.intro; refine ⟨fun w1 h1 K hK => ?_, ?_⟩; · ( go_big_quiet_op; first | exact hK | fail))
          (refine wpAnyG_take (i := 35) hCC hC0 rfl (by kernel_rfl) (by kernel_rfl) (by kernel_rfl) (fun _ _ _ _ h => h) (by rfl) ?_; apply Exists.intro; refine ⟨fun w1 h1 K hK => ?_, ?_⟩; · ( go_big_quiet_op; first | exact hK | exact ⟨_, fun V => aft_call (awake_any V.val), hK⟩))
          (refine wpAnyG_take (i := 36) hCC hC0 rfl (by kernel_rfl) (by kernel_rfl) (by kernel_rfl) (fun _ _ _ _ h => h) (by rfl) ?_; apply Exists.intro; refine ⟨fun w1 h1 K hK => ?_, ?_⟩; · ( go_big_quiet_op; first | exact hK | fail))
          (refine wpAnyG_take (i := 37) hCC hC0 rfl (by kernel_rfl) (by kernel_rfl) (by kernel_rfl) (fun _ _ _ _ h => h) (by rfl) ?_; apply Exists.intro; refine ⟨fun w1 h1 K hK => ?_, ?_⟩; · ( go_big_quiet_op; first | exact hK | fail))
          refine wpAnyG_done (by kernel_rfl) (fun wz hwz => ?_) _
          have HZ := Lib.hid (HF.out.on (HL.out.trans ((hCC _ _ hC0 hwz).mono HL.out.size)))
          clear hCC hC0 hwz
          go_wp2_with fail
          go_ret
          exact ⟨rfl, HZ.out.low⟩
    · obtain ⟨rfl, hb⟩ := loss_none hp HLB.out hall
      replace HF := Lib.hid (HF.out.on hb)
      clear hp hb HLS hall c2 l2
      go_wp2_with fail
      refine (awake_any _).mono ?_
      rintro e wz ⟨rfl, hb⟩
      replace HF := Lib.hid (HF.out.on hb)
      go_wp2_with fail
      go_ret
      exact ⟨rfl, HF.out.low⟩
end Go.Proofs.Ytipnaeijbbbdoaa
