/- Zone: ZoneMore returns true. -/
import Derived.Test.YtipnaeijbbbdoaaP4
namespace Go.Proofs.Ytipnaeijbbbdoaa
open Go.RowKit
theorem ix22 {g n c i : Nat} (h : i < n) (W : World) : (Instr.indexAt 22 (.slice (some ⟨g, 0, none⟩) n c) (.int .i64 (i : Nat))).run Try.prog W = .ok (.pointer (some ⟨g, i * 9, none⟩)) W := by
  have k0 : (0 : Int) ≤ (i : Int) := by omega
  have k1 : (i : Int) < (n : Int) := by omega
  simp [go_sem, k0, k1]
theorem updZ_updZ (f : Nat → Zon) (i : Nat) (a b : Zon) : updZ (updZ f i a) i b = updZ f i b := by
  funext j
  unfold updZ
  by_cases h : j = i
  · rw [if_pos h, if_pos h]
  · rw [if_neg h, if_neg h, if_neg h]
theorem updZ_id (f : Nat → Zon) (i : Nat) : updZ f i (f i) = f := by
  funext j
  unfold updZ
  by_cases h : j = i
  · rw [if_pos h, h]
  · rw [if_neg h]
/-- a field of the zone i is stored -/
theorem ZRow.fld {n i k0 : Nat} {f : Nat → Zon} {a x : Zon} {cur : Array Value} {v : Value} (h : ZRow n (updZ f i a) cur) (hi : i < n) (hk0 : k0 < 9) (hx : ∀ k, k < 9 → x.cells[k]? = if k = k0 then some v else a.cells[k]?) : ZRow n (updZ f i x) (cur.setIfInBounds (i * 9 + k0) v) := by
  have := h.set1 (x := x) hi hk0 (fun k hk => by rw [updZ_self]; exact hx k hk)
  rwa [updZ_updZ] at this
theorem cells_if {P : Nat → Prop} (h0 : P 0) (h1 : P 1) (h2 : P 2) (h3 : P 3) (h4 : P 4) (h5 : P 5) (h6 : P 6) (h7 : P 7) (h8 : P 8) : ∀ k, k < 9 → P k := fun k hk => by
  rcases k with _|_|_|_|_|_|_|_|_|k
  · exact h0
  · exact h1
  · exact h2
  · exact h3
  · exact h4
  · exact h5
  · exact h6
  · exact h7
  · exact h8
  · omega
set_option maxRecDepth 100000 in
set_option maxHeartbeats 32000000 in
theorem zoneMore_any (oa : Option Addr) (n ca : Nat) (z : Nat → Zon) (x y : Nat) (w : World) (hA : ZonsAt w oa n z) (hx : x < 256) (hy : y < 256) :
    Calls Try.prog 8 #[.slice oa n ca, .int .u8 x, .int .u8 y] w fun e w' => e = .returned (.bool true) ∧ Below w.heap.size w w' := by
  have HA := Lib.hid (fun (V : World) (hb : Below w.heap.size w V) => hA.mono hb)
  have HL := Lib.hid (Below.refl w.heap.size w)
  clear hA
  go_enter Try.func8, Try.ntmps8
  by_cases h16 : 16 < n
  · have h16' : (16 : Int) < (n : Int) := by omega
    go_wp2_with fail
    refine (awake_any _).mono ?_
    rintro e wz ⟨rfl, hb⟩
    replace HL := Lib.hid (HL.out.trans (hb.mono HL.out.size))
    go_wp2_with fail
    go_ret
    exact ⟨rfl, HL.out⟩
  have h16' : ¬ (16 : Int) < (n : Int) := by omega
  have hn : n ≤ 16 := by omega
  have HLS := Lib.hid (fun (V : World) (hb : Below w.heap.size w V) => losses_any oa n ca z V (by omega) (HA.out V hb))
  have HZS := Lib.hid (fun (V : World) (hb : Below w.heap.size w V) => zones_any oa n ca z V (by omega) (HA.out V hb))
  go_wp2_with fail
  clear h16' h16
  refine (HLS.out _ HL.out).mono ?_
  intro e w1 hp
  cases hlb : listB n z
  · obtain ⟨rfl, hb⟩ := loss_no hp hlb
    replace HL := Lib.hid (HL.out.trans (hb.mono HL.out.size))
    clear hp hb hlb HLS
    go_wp2_with fail
    refine (awake_any _).mono ?_
    rintro e wz ⟨rfl, hb⟩
    replace HL := Lib.hid (HL.out.trans (hb.mono HL.out.size))
    go_wp2_with fail
    go_ret
    exact ⟨rfl, HL.out⟩
  · have HLB := Lib.hid hlb
    obtain ⟨hn1, hn2, hz, hok⟩ := listB_spec hlb
    have HTR := Lib.hid hz
    have HOK := Lib.hid hok
    clear hlb hz hok
    obtain ⟨b0, off0, hoa, -⟩ := HA.out _ HL.out 0 (by omega)
    subst hoa
    by_cases hall : AllR z n
    · obtain ⟨hb, oB, cB, rfl, hsb, -⟩ := loss_all hp HLB.out hall
      obtain ⟨bB, oB9, hoB, -⟩ := hsb 0 (by omega)
      subst hoB
      have HSB := Lib.hid hsb
      have HALL := Lib.hid hall
      replace HL := Lib.hid (HL.out.trans (hb.mono HL.out.size))
      clear hp hb hsb HLS hall
      go_wp2_with fail
      refine (HZS.out _ HL.out).mono ?_
      rintro e W ⟨rfl, hb⟩
      rw [HLB.out]
      replace HL := Lib.hid (HL.out.trans (hb.mono HL.out.size))
      replace HSB := Lib.hid (HSB.out.mono hb)
      clear hb HZS
      as_aux_lemma =>
        have HB := HL
        replace HA := Lib.hid (fun (V : World) (hV : Below W.heap.size W V) => HA.out V (HB.out.trans (hV.mono HB.out.size)))
        replace HL := Lib.hid (Below.refl W.heap.size W)
        have HSBW := Lib.hid (show ∀ V, Below W.heap.size W V → SpnsAt V (some ⟨bB, oB9, none⟩) n (dnF z n) from fun V hV => HSB.out.mono hV)
        have HWL := HL
        have hi9 : x % n < n := Nat.mod_lt _ (by omega)
        obtain ⟨i, hi⟩ : ∃ i, i = x % n := ⟨_, rfl⟩
        have t1 : (x : Int).tmod (n : Int) = (i : Int) := by
          rw [Int.tmod_eq_emod_of_nonneg (by omega), hi]
          exact (Int.natCast_emod x n).symm
        rw [← hi] at hi9
        clear hi
        have HIN := Lib.hid hi9
        have x1 : ((n : Int) == 0) = false := by simp; omega
        have x2 : (n : Int) ≠ 0 := by omega
        have k0 : (0 : Int) ≤ (i : Int) := by omega
        have k1 : (i : Int) < (n : Int) := by omega
        obtain ⟨iR, hiR, hzR0, hzR1, hzR2⟩ := info_parts (P := Try.prog) (e := 48) (z := .agg #[.int .i64 0, .int .i64 0, .int .i64 0, .int .i64 0, .int .i64 0, .int .i64 0, .int .i64 0, .int .i64 0, .int .i64 0]) (size := 9) (bytes := 72) (by kernel_rfl)
        have HIR := Lib.hid hiR
        have HZR := Lib.hid (And.intro hzR0 (And.intro hzR1 hzR2))
        clear hiR hzR0 hzR1 hzR2
        go_wp2_with (at_builtin; refine wpList_append_gen rfl (.tmp 52) (.tmp 53) _ rfl W.heap.size 48 iR _ 9 72 Try.underlying22 HIR.out HZR.out.1 HZR.out.2.1 HZR.out.2.2 rfl (by omega) (.slice (some ⟨W.heap.size, 0, none⟩) 0 0) 0 [] rfl (some ⟨b0, off0, none⟩) n ca (zonNews n z) rfl (owns_empty (Nat.le_refl _) (heap_new rfl)) (fun e9 => by cases e9) (zonNews_length n z) (fun ad9 e9 j9 u9 hu9 => (zons_news (HA.out _ (HL.out.alloc HL.out.size _))) ad9 e9 j9 u9 hu9) zons_one (by simp only [maxLen]; omega) (by omega) (by simp) ?_; intro vS wS hownS hgrowS)
        rw [Nat.zero_add, List.nil_append] at hownS
        obtain ⟨g, cR, cur9, rfl, hgb, hbx, hzr⟩ := owns_zrow hownS (by omega)
        have HLW := HL
        have hb : Below W.heap.size W wS := below_grown (below_alloc1 W (.cells #[] 48)) (owns_empty (e := 48) (size := 9) (Nat.le_refl _) (heap_new rfl)) hgrowS
        replace HL := Lib.hid (HL.out.trans (hb.mono HL.out.size))
        replace HSB := Lib.hid (HSB.out.mono hb)
        have HG := Lib.hid (show W.heap.size ≤ g from hgb)
        have HBX := Lib.hid hbx
        have HR := Lib.hid (show ZRow n (updZ z i (z i)) cur9 by rw [updZ_id]; exact hzr)
        have HOKI := Lib.hid (HOK.out i HIN.out)
        have HNB := Lib.hid (nar_list (b := y) HLB.out HIN.out)
        have HND := Lib.hid (fun h => nar_dn (i := i) (b := y) HTR.out HOK.out h)
        have HNZ := Lib.hid (show (z i).nar y = ⟨⟨min (z i).i.hi ((z i).i.lo + ((y % 11 : Nat) : Int)), (z i).i.hi⟩, ⟨(z i).m.lo, max (z i).m.lo ((z i).m.hi - ((y % 7 : Nat) : Int))⟩, ⟨min (z i).e.hi ((z i).e.lo + ((y % 3 : Nat) : Int)), (z i).e.hi⟩, ⟨(z i).l.lo, max (z i).l.lo ((z i).l.hi - ((y % 5 : Nat) : Int))⟩, (z i).p⟩ from rfl)
        replace HSB := Lib.hid HSB.out
        clear hownS hgrowS hbx hzr hgb hb HLW
        obtain ⟨Zn, hZn⟩ : ∃ Zn, Zn = (z i).nar y := ⟨_, rfl⟩
        rw [← hZn] at HNB HND HNZ
        clear hZn
        obtain ⟨r11, hr11⟩ : ∃ r : Int, r = ((y % 11 : Nat) : Int) := ⟨_, rfl⟩
        obtain ⟨r7, hr7⟩ : ∃ r : Int, r = ((y % 7 : Nat) : Int) := ⟨_, rfl⟩
        obtain ⟨r5, hr5⟩ : ∃ r : Int, r = ((y % 5 : Nat) : Int) := ⟨_, rfl⟩
        obtain ⟨r3, hr3⟩ : ∃ r : Int, r = ((y % 3 : Nat) : Int) := ⟨_, rfl⟩
        have hrb : 0 ≤ r11 ∧ r11 ≤ 255 ∧ 0 ≤ r7 ∧ r7 ≤ 255 ∧ 0 ≤ r5 ∧ r5 ≤ 255 ∧ 0 ≤ r3 ∧ r3 ≤ 255 := by omega
        have T11 := Lib.hid (show (y : Int).tmod 11 = r11 by rw [Int.tmod_eq_emod_of_nonneg (by omega), hr11]; omega)
        have T7 := Lib.hid (show (y : Int).tmod 7 = r7 by rw [Int.tmod_eq_emod_of_nonneg (by omega), hr7]; omega)
        have T5 := Lib.hid (show (y : Int).tmod 5 = r5 by rw [Int.tmod_eq_emod_of_nonneg (by omega), hr5]; omega)
        have T3 := Lib.hid (show (y : Int).tmod 3 = r3 by rw [Int.tmod_eq_emod_of_nonneg (by omega), hr3]; omega)
        rw [← hr11, ← hr7, ← hr5, ← hr3] at HNZ
        clear hr11 hr7 hr5 hr3
        obtain ⟨Zi, hZi⟩ : ∃ Zi, Zi = z i := ⟨_, rfl⟩
        rw [← hZi] at HR HOKI HNZ
        clear hZi
        obtain ⟨⟨ilo, ihi⟩, ⟨mlo, mhi⟩, ⟨elo, ehi⟩, ⟨llo, lhi⟩, p⟩ := Zi
        simp only at HNZ
        obtain ⟨⟨i1, i2, i3⟩, ⟨m1, m2, m3⟩, ⟨e1, e2, e3⟩, ⟨l1, l2, l3⟩⟩ := HOKI.out
        simp only at i1 i2 i3 m1 m2 m3 e1 e2 e3 l1 l2 l3
        clear HOKI
        obtain ⟨v1, hv1⟩ : ∃ v, v = min ihi (ilo + r11) := ⟨_, rfl⟩
        obtain ⟨v2, hv2⟩ : ∃ v, v = max mlo (mhi - r7) := ⟨_, rfl⟩
        obtain ⟨v3, hv3⟩ : ∃ v, v = max llo (lhi - r5) := ⟨_, rfl⟩
        obtain ⟨v4, hv4⟩ : ∃ v, v = min ehi (elo + r3) := ⟨_, rfl⟩
        rw [← hv1, ← hv2, ← hv3, ← hv4] at HNZ
        have V1 := Lib.hid hv1
        have V2 := Lib.hid hv2
        have V3 := Lib.hid hv3
        have V4 := Lib.hid hv4
        clear hv1 hv2 hv3 hv4
        obtain ⟨W9, hW⟩ : ∃ X, X = wS := ⟨_, rfl⟩
        rw [← hW] at HL HBX ⊢
        rw [← hW] at HSB
        clear hW wS
        have hix : ∀ W : World, (Instr.indexAt 22 (.slice (some ⟨g, 0, none⟩) n cR) (.int .i64 (i : Nat))).run Try.prog W = .ok (.pointer (some ⟨g, i * 9, none⟩)) W := fun W => ix22 HIN.out W
        go_upto_region 9 with fail
        go_simp
        go_upto_region 9 with fail
        clear hix
        have hP0 : ∀ A B : World, Below W9.heap.size W9 A → Below A.heap.size A B → Below W9.heap.size W9 B := fun A B h1 h2 => h1.trans (h2.mono h1.size)
        have hP1 : ∀ A B : World, g < A.heap.size → Below A.heap.size A B → g < B.heap.size := fun _ _ h1 h2 => Nat.lt_of_lt_of_le h1 h2.size
        have hP01 : ∀ A : World, Below W9.heap.size W9 A → g < A.heap.size := fun _ h1 => Nat.lt_of_lt_of_le HBX.out.lt h1.size
        have hC0 : Below W9.heap.size W9 W9.drew := (Below.refl _ _).drew
        have tm := T11.out
        have hmx : (if ilo + r11 < ihi then ilo + r11 else ihi) = v1 := by rw [V1.out]; split <;> omega
        refine wp_region_phase 19 (fun A => Below W9.heap.size W9 A) (fun A => g < A.heap.size) (by kernel_rfl) ?_
        (refine wpAnyP_take0 (i := 0) hP0 hP1 hC0 (by decide) (by rfl) rfl (by kernel_rfl) rfl (by kernel_rfl) (by kernel_rfl) (by kernel_rfl) (fun _ _ _ _ h => h) (by rfl) ?_; apply Exists.intro; refine ⟨fun w1 h1 K hK => ?_, ?_⟩; · ( go_big_quiet_op; first | exact hK | fail))
        (refine wpAnyP_take0 (i := 1) hP0 hP1 hC0 (by decide) (by rfl) rfl (by kernel_rfl) rfl (by kernel_rfl) (by kernel_rfl) (by kernel_rfl) (fun _ _ _ _ h => h) (by rfl) ?_; apply Exists.intro; refine ⟨fun w1 h1 K hK => ?_, ?_⟩; · ( go_big_quiet_op; first | exact hK | fail))
        (refine wpAnyP_take0 (i := 2) hP0 hP1 hC0 (by decide) (by rfl) rfl (by kernel_rfl) rfl (by kernel_rfl) (by kernel_rfl) (by kernel_rfl) (fun _ _ _ _ h => h) (by rfl) ?_; apply Exists.intro; refine ⟨fun w1 h1 K hK => ?_, ?_⟩; · (have q9 : ∀ V : Aft w1, g < V.val.heap.size := fun V => (HBX.out.below (hP0 _ _ h1 V.below)).lt; go_big_quiet_op; first | exact hK | fail))
        (refine wpAnyP_take0 (i := 3) hP0 hP1 hC0 (by decide) (by rfl) rfl (by kernel_rfl) rfl (by kernel_rfl) (by kernel_rfl) (by kernel_rfl) (fun _ _ _ _ h => h) (by rfl) ?_; apply Exists.intro; refine ⟨fun w1 h1 K hK => ?_, ?_⟩; · (have q9 : ∀ V : Aft w1, g < V.val.heap.size := fun V => (HBX.out.below (hP0 _ _ h1 V.below)).lt; go_big_quiet_op; first | exact hK | fail))
        (refine wpAnyP_take0 (i := 4) hP0 hP1 hC0 (by decide) (by rfl) rfl (by kernel_rfl) rfl (by kernel_rfl) (by kernel_rfl) (by kernel_rfl) (fun _ _ _ _ h => h) (by rfl) ?_; apply Exists.intro; refine ⟨fun w1 h1 K hK => ?_, ?_⟩; · (have q9 : ∀ V : Aft w1, g < V.val.heap.size := fun V => (HBX.out.below (hP0 _ _ h1 V.below)).lt; go_big_quiet_op; first | exact hK | fail))
        (refine wpAnyP_take0 (i := 5) hP0 hP1 hC0 (by decide) (by rfl) rfl (by kernel_rfl) rfl (by kernel_rfl) (by kernel_rfl) (by kernel_rfl) (fun _ _ _ _ h => h) (by rfl) ?_; apply Exists.intro; refine ⟨fun w1 h1 K hK => ?_, ?_⟩; · (have q1 : ∀ V : Aft w1, V.val.cell? ⟨g, i * 9 + 1, none⟩ = some (.int .i64 ihi) := fun V => (HBX.out.below (hP0 _ _ h1 V.below)).cell (i * 9 + 1) ((HR.out.2 i HIN.out 1 (by omega)).trans (by rw [updZ_self]; rfl));have q9 : ∀ V : Aft w1, g < V.val.heap.size := fun V => (HBX.out.below (hP0 _ _ h1 V.below)).lt; go_big_quiet_op; first | exact hK | fail))
        (refine wpAnyP_take0 (i := 6) hP0 hP1 hC0 (by decide) (by rfl) rfl (by kernel_rfl) rfl (by kernel_rfl) (by kernel_rfl) (by kernel_rfl) (fun _ _ _ _ h => h) (by rfl) ?_; apply Exists.intro; refine ⟨fun w1 h1 K hK => ?_, ?_⟩; · ( go_big_quiet_op; first | exact hK | fail))
        (refine wpAnyP_take0 (i := 7) hP0 hP1 hC0 (by decide) (by rfl) rfl (by kernel_rfl) rfl (by kernel_rfl) (by kernel_rfl) (by kernel_rfl) (fun _ _ _ _ h => h) (by rfl) ?_; apply Exists.intro; refine ⟨fun w1 h1 K hK => ?_, ?_⟩; · (have q9 : ∀ V : Aft w1, g < V.val.heap.size := fun V => (HBX.out.below (hP0 _ _ h1 V.below)).lt; go_big_quiet_op; first | exact hK | fail))
        (refine wpAnyP_take0 (i := 8) hP0 hP1 hC0 (by decide) (by rfl) rfl (by kernel_rfl) rfl (by kernel_rfl) (by kernel_rfl) (by kernel_rfl) (fun _ _ _ _ h => h) (by rfl) ?_; apply Exists.intro; refine ⟨fun w1 h1 K hK => ?_, ?_⟩; · (have q9 : ∀ V : Aft w1, g < V.val.heap.size := fun V => (HBX.out.below (hP0 _ _ h1 V.below)).lt; go_big_quiet_op; first | exact hK | fail))
        (refine wpAnyP_take0 (i := 9) hP0 hP1 hC0 (by decide) (by rfl) rfl (by kernel_rfl) rfl (by kernel_rfl) (by kernel_rfl) (by kernel_rfl) (fun _ _ _ _ h => h) (by rfl) ?_; apply Exists.intro; refine ⟨fun w1 h1 K hK => ?_, ?_⟩; · (have q9 : ∀ V : Aft w1, g < V.val.heap.size := fun V => (HBX.out.below (hP0 _ _ h1 V.below)).lt; go_big_quiet_op; first | exact hK | fail))
        (refine wpAnyP_take0 (i := 10) hP0 hP1 hC0 (by decide) (by rfl) rfl (by kernel_rfl) rfl (by kernel_rfl) (by kernel_rfl) (by kernel_rfl) (fun _ _ _ _ h => h) (by rfl) ?_; apply Exists.intro; refine ⟨fun w1 h1 K hK => ?_, ?_⟩; · (have q0 : ∀ V : Aft w1, V.val.cell? ⟨g, i * 9, none⟩ = some (.int .i64 ilo) := fun V => (HBX.out.below (hP0 _ _ h1 V.below)).cell (i * 9) ((HR.out.2 i HIN.out 0 (by omega)).trans (by rw [updZ_self]; rfl));have q9 : ∀ V : Aft w1, g < V.val.heap.size := fun V => (HBX.out.below (hP0 _ _ h1 V.below)).lt; go_big_quiet_op; first | exact hK | fail))
        (refine wpAnyP_take0 (i := 11) hP0 hP1 hC0 (by decide) (by rfl) rfl (by kernel_rfl) rfl (by kernel_rfl) (by kernel_rfl) (by kernel_rfl) (fun _ _ _ _ h => h) (by rfl) ?_; apply Exists.intro; refine ⟨fun w1 h1 K hK => ?_, ?_⟩; · ( go_big_quiet_op; first | exact hK | fail))
        (refine wpAnyP_take0 (i := 12) hP0 hP1 hC0 (by decide) (by rfl) rfl (by kernel_rfl) rfl (by kernel_rfl) (by kernel_rfl) (by kernel_rfl) (fun _ _ _ _ h => h) (by rfl) ?_; apply Exists.intro; refine ⟨fun w1 h1 K hK => ?_, ?_⟩; · ( go_big_quiet_op; first | exact hK | fail))
        (refine wpAnyP_take0 (i := 13) hP0 hP1 hC0 (by decide) (by rfl) rfl (by kernel_rfl) rfl (by kernel_rfl) (by kernel_rfl) (by kernel_rfl) (fun _ _ _ _ h => h) (by rfl) ?_; apply Exists.intro; refine ⟨fun w1 h1 K hK => ?_, ?_⟩; · ( go_big_quiet_op; first | exact hK | fail))
        (refine wpAnyP_take0 (i := 14) hP0 hP1 hC0 (by decide) (by rfl) rfl (by kernel_rfl) rfl (by kernel_rfl) (by kernel_rfl) (by kernel_rfl) (fun _ _ _ _ h => h) (by rfl) ?_; apply Exists.intro; refine ⟨fun w1 h1 K hK => ?_, ?_⟩; · ( go_big_quiet_op; first | exact hK | fail))
        (refine wpAnyP_take0 (i := 15) hP0 hP1 hC0 (by decide) (by rfl) rfl (by kernel_rfl) rfl (by kernel_rfl) (by kernel_rfl) (by kernel_rfl) (fun _ _ _ _ h => h) (by rfl) ?_; apply Exists.intro; refine ⟨fun w1 h1 K hK => ?_, ?_⟩; · ( go_big_quiet_op; first | exact hK | fail))
        (refine wpAnyP_take1 (i := 16) hP0 hP1 hP01 hC0 (by decide) rfl (by kernel_rfl) (by kernel_rfl) (by kernel_rfl) (fun _ _ _ _ h => h) (by rfl) ?_; apply Exists.intro; refine ⟨fun w1 h1 K hK => ?_, ?_⟩; · (have q9 : ∀ V : Aft w1, g < V.val.heap.size := fun V => hP1 _ _ h1 V.below; go_big_quiet_op; first | exact hK | fail))
        (refine wpAnyP_take1 (i := 17) hP0 hP1 hP01 hC0 (by decide) rfl (by kernel_rfl) (by kernel_rfl) (by kernel_rfl) (fun _ _ _ _ h => h) (by rfl) ?_; apply Exists.intro; refine ⟨fun w1 h1 K hK => ?_, ?_⟩; · (have q9 : ∀ V : Aft w1, g < V.val.heap.size := fun V => hP1 _ _ h1 V.below; go_big_quiet_op; first | exact hK | fail))
        (refine wpAnyP_take1 (i := 18) hP0 hP1 hP01 hC0 (by decide) rfl (by kernel_rfl) (by kernel_rfl) (by kernel_rfl) (fun _ _ _ _ h => h) (by rfl) ?_; apply Exists.intro; refine ⟨fun w1 h1 K hK => ?_, ?_⟩; · (have q9 : ∀ V : Aft w1, g < V.val.heap.size := fun V => hP1 _ _ h1 V.below; go_big_quiet_op; first | exact hK | fail))
        (refine wpAnyP_one (i := 19) (by kernel_rfl) rfl (by rfl) (fun wa hwa K hK => ?_))
        have hA1 := hP0 _ _ hC0 hwa
        have hsz := HR.out.1
        have hi9 := HIN.out
        refine wp_store_int (HBX.out.below hA1) rfl rfl rfl (by omega) (by kernel_rfl) (fun wb zs ho => ?_)
        dsimp only [Act.put]
        refine hK _ _ zs.lt ?_
        clear hK K
        refine wpAnyP_done (by kernel_rfl) (fun wz hwz => ?_) _
        have hLb := (HL.out.trans (hA1.mono HL.out.size)).trans (ho.below HG.out)
        have HL2 := Lib.hid (hLb.trans (hwz.mono hLb.size))
        have HBX2 := Lib.hid (zs.below hwz)
        have HR2 := Lib.hid (ZRow.fld (v := .int .i64 v1) (x := ⟨⟨v1, ihi⟩, ⟨mlo, mhi⟩, ⟨elo, ehi⟩, ⟨llo, lhi⟩, p⟩) HR.out hi9 (show 0 < 9 by omega) (cells_if rfl rfl rfl rfl rfl rfl rfl rfl rfl))
        clear hP0 hP1 hP01 hC0 hwa hA1 zs ho hLb hwz hsz hi9 tm hmx HBX HR HL
        obtain ⟨W10, hW⟩ : ∃ X, X = wz := ⟨_, rfl⟩
        rw [← hW] at HL2 HBX2 ⊢
        have HL := HL2
        have HBX := HBX2
        have HR := HR2
        clear hW HL2 HBX2 HR2 wz
        obtain ⟨cur10, hcc⟩ : ∃ c, c = cur9.setIfInBounds (i * 9 + 0) (.int .i64 v1) := ⟨_, rfl⟩
        rw [← hcc] at HR
        replace HBX := Lib.hid (show Box g cur10 48 W10 by rw [hcc]; exact HBX.out)
        clear hcc
        have hix : ∀ W : World, (Instr.indexAt 22 (.slice (some ⟨g, 0, none⟩) n cR) (.int .i64 (i : Nat))).run Try.prog W = .ok (.pointer (some ⟨g, i * 9, none⟩)) W := fun W => ix22 HIN.out W
        go_upto_region 10 with fail
        skip
        skip
        clear hix
        have hP0 : ∀ A B : World, Below W10.heap.size W10 A → Below A.heap.size A B → Below W10.heap.size W10 B := fun A B h1 h2 => h1.trans (h2.mono h1.size)
        have hP1 : ∀ A B : World, g < A.heap.size → Below A.heap.size A B → g < B.heap.size := fun _ _ h1 h2 => Nat.lt_of_lt_of_le h1 h2.size
        have hP01 : ∀ A : World, Below W10.heap.size W10 A → g < A.heap.size := fun _ h1 => Nat.lt_of_lt_of_le HBX.out.lt h1.size
        have hC0 : Below W10.heap.size W10 W10.drew := (Below.refl _ _).drew
        have tm := T7.out
        have hmx : (if mlo < mhi - r7 then mhi - r7 else mlo) = v2 := by rw [V2.out]; split <;> omega
        refine wp_region_phase 19 (fun A => Below W10.heap.size W10 A) (fun A => g < A.heap.size) (by kernel_rfl) ?_
        (refine wpAnyP_take0 (i := 0) hP0 hP1 hC0 (by decide) (by rfl) rfl (by kernel_rfl) rfl (by kernel_rfl) (by kernel_rfl) (by kernel_rfl) (fun _ _ _ _ h => h) (by rfl) ?_; apply Exists.intro; refine ⟨fun w1 h1 K hK => ?_, ?_⟩; · ( go_big_quiet_op; first | exact hK | fail))
        (refine wpAnyP_take0 (i := 1) hP0 hP1 hC0 (by decide) (by rfl) rfl (by kernel_rfl) rfl (by kernel_rfl) (by kernel_rfl) (by kernel_rfl) (fun _ _ _ _ h => h) (by rfl) ?_; apply Exists.intro; refine ⟨fun w1 h1 K hK => ?_, ?_⟩; · ( go_big_quiet_op; first | exact hK | fail))
        (refine wpAnyP_take0 (i := 2) hP0 hP1 hC0 (by decide) (by rfl) rfl (by kernel_rfl) rfl (by kernel_rfl) (by kernel_rfl) (by kernel_rfl) (fun _ _ _ _ h => h) (by rfl) ?_; apply Exists.intro; refine ⟨fun w1 h1 K hK => ?_, ?_⟩; · (have q9 : ∀ V : Aft w1, g < V.val.heap.size := fun V => (HBX.out.below (hP0 _ _ h1 V.below)).lt; go_big_quiet_op; first | exact hK | fail))
        (refine wpAnyP_take0 (i := 3) hP0 hP1 hC0 (by decide) (by rfl) rfl (by kernel_rfl) rfl (by kernel_rfl) (by kernel_rfl) (by kernel_rfl) (fun _ _ _ _ h => h) (by rfl) ?_; apply Exists.intro; refine ⟨fun w1 h1 K hK => ?_, ?_⟩; · (have q9 : ∀ V : Aft w1, g < V.val.heap.size := fun V => (HBX.out.below (hP0 _ _ h1 V.below)).lt; go_big_quiet_op; first | exact hK | fail))
        (refine wpAnyP_take0 (i := 4) hP0 hP1 hC0 (by decide) (by rfl) rfl (by kernel_rfl) rfl (by kernel_rfl) (by kernel_rfl) (by kernel_rfl) (fun _ _ _ _ h => h) (by rfl) ?_; apply Exists.intro; refine ⟨fun w1 h1 K hK => ?_, ?_⟩; · (have q9 : ∀ V : Aft w1, g < V.val.heap.size := fun V => (HBX.out.below (hP0 _ _ h1 V.below)).lt; go_big_quiet_op; first | exact hK | fail))
        (refine wpAnyP_take0 (i := 5) hP0 hP1 hC0 (by decide) (by rfl) rfl (by kernel_rfl) rfl (by kernel_rfl) (by kernel_rfl) (by kernel_rfl) (fun _ _ _ _ h => h) (by rfl) ?_; apply Exists.intro; refine ⟨fun w1 h1 K hK => ?_, ?_⟩; · (have q2 : ∀ V : Aft w1, V.val.cell? ⟨g, i * 9 + 2, none⟩ = some (.int .i64 mlo) := fun V => (HBX.out.below (hP0 _ _ h1 V.below)).cell (i * 9 + 2) ((HR.out.2 i HIN.out 2 (by omega)).trans (by rw [updZ_self]; rfl));have q9 : ∀ V : Aft w1, g < V.val.heap.size := fun V => (HBX.out.below (hP0 _ _ h1 V.below)).lt; go_big_quiet_op; first | exact hK | fail))
        (refine wpAnyP_take0 (i := 6) hP0 hP1 hC0 (by decide) (by rfl) rfl (by kernel_rfl) rfl (by kernel_rfl) (by kernel_rfl) (by kernel_rfl) (fun _ _ _ _ h => h) (by rfl) ?_; apply Exists.intro; refine ⟨fun w1 h1 K hK => ?_, ?_⟩; · ( go_big_quiet_op; first | exact hK | fail))
        (refine wpAnyP_take0 (i := 7) hP0 hP1 hC0 (by decide) (by rfl) rfl (by kernel_rfl) rfl (by kernel_rfl) (by kernel_rfl) (by kernel_rfl) (fun _ _ _ _ h => h) (by rfl) ?_; apply Exists.intro; refine ⟨fun w1 h1 K hK => ?_, ?_⟩; · (have q9 : ∀ V : Aft w1, g < V.val.heap.size := fun V => (HBX.out.below (hP0 _ _ h1 V.below)).lt; go_big_quiet_op; first | exact hK | fail))
        (refine wpAnyP_take0 (i := 8) hP0 hP1 hC0 (by decide) (by rfl) rfl (by kernel_rfl) rfl (by kernel_rfl) (by kernel_rfl) (by kernel_rfl) (fun _ _ _ _ h => h) (by rfl) ?_; apply Exists.intro; refine ⟨fun w1 h1 K hK => ?_, ?_⟩; · (have q9 : ∀ V : Aft w1, g < V.val.heap.size := fun V => (HBX.out.below (hP0 _ _ h1 V.below)).lt; go_big_quiet_op; first | exact hK | fail))
        (refine wpAnyP_take0 (i := 9) hP0 hP1 hC0 (by decide) (by rfl) rfl (by kernel_rfl) rfl (by kernel_rfl) (by kernel_rfl) (by kernel_rfl) (fun _ _ _ _ h => h) (by rfl) ?_; apply Exists.intro; refine ⟨fun w1 h1 K hK => ?_, ?_⟩; · (have q9 : ∀ V : Aft w1, g < V.val.heap.size := fun V => (HBX.out.below (hP0 _ _ h1 V.below)).lt; go_big_quiet_op; first | exact hK | fail))
        (refine wpAnyP_take0 (i := 10) hP0 hP1 hC0 (by decide) (by rfl) rfl (by kernel_rfl) rfl (by kernel_rfl) (by kernel_rfl) (by kernel_rfl) (fun _ _ _ _ h => h) (by rfl) ?_; apply Exists.intro; refine ⟨fun w1 h1 K hK => ?_, ?_⟩; · (have q3 : ∀ V : Aft w1, V.val.cell? ⟨g, i * 9 + 3, none⟩ = some (.int .i64 mhi) := fun V => (HBX.out.below (hP0 _ _ h1 V.below)).cell (i * 9 + 3) ((HR.out.2 i HIN.out 3 (by omega)).trans (by rw [updZ_self]; rfl));have q9 : ∀ V : Aft w1, g < V.val.heap.size := fun V => (HBX.out.below (hP0 _ _ h1 V.below)).lt; go_big_quiet_op; first | exact hK | fail))
        (refine wpAnyP_take0 (i := 11) hP0 hP1 hC0 (by decide) (by rfl) rfl (by kernel_rfl) rfl (by kernel_rfl) (by kernel_rfl) (by kernel_rfl) (fun _ _ _ _ h => h) (by rfl) ?_; apply Exists.intro; refine ⟨fun w1 h1 K hK => ?_, ?_⟩; · ( go_big_quiet_op; first | exact hK | fail))
        (refine wpAnyP_take0 (i := 12) hP0 hP1 hC0 (by decide) (by rfl) rfl (by kernel_rfl) rfl (by kernel_rfl) (by kernel_rfl) (by kernel_rfl) (fun _ _ _ _ h => h) (by rfl) ?_; apply Exists.intro; refine ⟨fun w1 h1 K hK => ?_, ?_⟩; · ( go_big_quiet_op; first | exact hK | fail))
        (refine wpAnyP_take0 (i := 13) hP0 hP1 hC0 (by decide) (by rfl) rfl (by kernel_rfl) rfl (by kernel_rfl) (by kernel_rfl) (by kernel_rfl) (fun _ _ _ _ h => h) (by rfl) ?_; apply Exists.intro; refine ⟨fun w1 h1 K hK => ?_, ?_⟩; · ( go_big_quiet_op; first | exact hK | fail))
        (refine wpAnyP_take0 (i := 14) hP0 hP1 hC0 (by decide) (by rfl) rfl (by kernel_rfl) rfl (by kernel_rfl) (by kernel_rfl) (by kernel_rfl) (fun _ _ _ _ h => h) (by rfl) ?_; apply Exists.intro; refine ⟨fun w1 h1 K hK => ?_, ?_⟩; · ( go_big_quiet_op; first | exact hK | fail))
        (refine wpAnyP_take0 (i := 15) hP0 hP1 hC0 (by decide) (by rfl) rfl (by kernel_rfl) rfl (by kernel_rfl) (by kernel_rfl) (by kernel_rfl) (fun _ _ _ _ h => h) (by rfl) ?_; apply Exists.intro; refine ⟨fun w1 h1 K hK => ?_, ?_⟩; · ( go_big_quiet_op; first | exact hK | fail))
        (refine wpAnyP_take1 (i := 16) hP0 hP1 hP01 hC0 (by decide) rfl (by kernel_rfl) (by kernel_rfl) (by kernel_rfl) (fun _ _ _ _ h => h) (by rfl) ?_; apply Exists.intro; refine ⟨fun w1 h1 K hK => ?_, ?_⟩; · (have q9 : ∀ V : Aft w1, g < V.val.heap.size := fun V => hP1 _ _ h1 V.below; go_big_quiet_op; first | exact hK | fail))
        (refine wpAnyP_take1 (i := 17) hP0 hP1 hP01 hC0 (by decide) rfl (by kernel_rfl) (by kernel_rfl) (by kernel_rfl) (fun _ _ _ _ h => h) (by rfl) ?_; apply Exists.intro; refine ⟨fun w1 h1 K hK => ?_, ?_⟩; · (have q9 : ∀ V : Aft w1, g < V.val.heap.size := fun V => hP1 _ _ h1 V.below; go_big_quiet_op; first | exact hK | fail))
        (refine wpAnyP_take1 (i := 18) hP0 hP1 hP01 hC0 (by decide) rfl (by kernel_rfl) (by kernel_rfl) (by kernel_rfl) (fun _ _ _ _ h => h) (by rfl) ?_; apply Exists.intro; refine ⟨fun w1 h1 K hK => ?_, ?_⟩; · (have q9 : ∀ V : Aft w1, g < V.val.heap.size := fun V => hP1 _ _ h1 V.below; go_big_quiet_op; first | exact hK | fail))
        (refine wpAnyP_one (i := 19) (by kernel_rfl) rfl (by rfl) (fun wa hwa K hK => ?_))
        have hA1 := hP0 _ _ hC0 hwa
        have hsz := HR.out.1
        have hi9 := HIN.out
        refine wp_store_int (HBX.out.below hA1) rfl rfl rfl (by omega) (by kernel_rfl) (fun wb zs ho => ?_)
        dsimp only [Act.put]
        refine hK _ _ zs.lt ?_
        clear hK K
        refine wpAnyP_done (by kernel_rfl) (fun wz hwz => ?_) _
        have hLb := (HL.out.trans (hA1.mono HL.out.size)).trans (ho.below HG.out)
        have HL2 := Lib.hid (hLb.trans (hwz.mono hLb.size))
        have HBX2 := Lib.hid (zs.below hwz)
        have HR2 := Lib.hid (ZRow.fld (v := .int .i64 v2) (x := ⟨⟨v1, ihi⟩, ⟨mlo, v2⟩, ⟨elo, ehi⟩, ⟨llo, lhi⟩, p⟩) HR.out hi9 (show 3 < 9 by omega) (cells_if rfl rfl rfl rfl rfl rfl rfl rfl rfl))
        clear hP0 hP1 hP01 hC0 hwa hA1 zs ho hLb hwz hsz hi9 tm hmx HBX HR HL
        obtain ⟨W11, hW⟩ : ∃ X, X = wz := ⟨_, rfl⟩
        rw [← hW] at HL2 HBX2 ⊢
        have HL := HL2
        have HBX := HBX2
        have HR := HR2
        clear hW HL2 HBX2 HR2 wz
        obtain ⟨cur11, hcc⟩ : ∃ c, c = cur10.setIfInBounds (i * 9 + 3) (.int .i64 v2) := ⟨_, rfl⟩
        rw [← hcc] at HR
        replace HBX := Lib.hid (show Box g cur11 48 W11 by rw [hcc]; exact HBX.out)
        clear hcc
        have hix : ∀ W : World, (Instr.indexAt 22 (.slice (some ⟨g, 0, none⟩) n cR) (.int .i64 (i : Nat))).run Try.prog W = .ok (.pointer (some ⟨g, i * 9, none⟩)) W := fun W => ix22 HIN.out W
        go_upto_region 11 with fail
        skip
        skip
        clear hix
        have hP0 : ∀ A B : World, Below W11.heap.size W11 A → Below A.heap.size A B → Below W11.heap.size W11 B := fun A B h1 h2 => h1.trans (h2.mono h1.size)
        have hP1 : ∀ A B : World, g < A.heap.size → Below A.heap.size A B → g < B.heap.size := fun _ _ h1 h2 => Nat.lt_of_lt_of_le h1 h2.size
        have hP01 : ∀ A : World, Below W11.heap.size W11 A → g < A.heap.size := fun _ h1 => Nat.lt_of_lt_of_le HBX.out.lt h1.size
        have hC0 : Below W11.heap.size W11 W11.drew := (Below.refl _ _).drew
        have tm := T5.out
        have hmx : (if llo < lhi - r5 then lhi - r5 else llo) = v3 := by rw [V3.out]; split <;> omega
        refine wp_region_phase 19 (fun A => Below W11.heap.size W11 A) (fun A => g < A.heap.size) (by kernel_rfl) ?_
        (refine wpAnyP_take0 (i := 0) hP0 hP1 hC0 (by decide) (by rfl) rfl (by kernel_rfl) rfl (by kernel_rfl) (by kernel_rfl) (by kernel_rfl) (fun _ _ _ _ h => h) (by rfl) ?_; apply Exists.intro; refine ⟨fun w1 h1 K hK => ?_, ?_⟩; · ( go_big_quiet_op; first | exact hK | fail))
        (refine wpAnyP_take0 (i := 1) hP0 hP1 hC0 (by decide) (by rfl) rfl (by kernel_rfl) rfl (by kernel_rfl) (by kernel_rfl) (by kernel_rfl) (fun _ _ _ _ h => h) (by rfl) ?_; apply Exists.intro; refine ⟨fun w1 h1 K hK => ?_, ?_⟩; · ( go_big_quiet_op; first | exact hK | fail))
        (refine wpAnyP_take0 (i := 2) hP0 hP1 hC0 (by decide) (by rfl) rfl (by kernel_rfl) rfl (by kernel_rfl) (by kernel_rfl) (by kernel_rfl) (fun _ _ _ _ h => h) (by rfl) ?_; apply Exists.intro; refine ⟨fun w1 h1 K hK => ?_, ?_⟩; · (have q9 : ∀ V : Aft w1, g < V.val.heap.size := fun V => (HBX.out.below (hP0 _ _ h1 V.below)).lt; go_big_quiet_op; first | exact hK | fail))
        (refine wpAnyP_take0 (i := 3) hP0 hP1 hC0 (by decide) (by rfl) rfl (by kernel_rfl) rfl (by kernel_rfl) (by kernel_rfl) (by kernel_rfl) (fun _ _ _ _ h => h) (by rfl) ?_; apply Exists.intro; refine ⟨fun w1 h1 K hK => ?_, ?_⟩; · (have q9 : ∀ V : Aft w1, g < V.val.heap.size := fun V => (HBX.out.below (hP0 _ _ h1 V.below)).lt; go_big_quiet_op; first | exact hK | fail))
        (refine wpAnyP_take0 (i := 4) hP0 hP1 hC0 (by decide) (by rfl) rfl (by kernel_rfl) rfl (by kernel_rfl) (by kernel_rfl) (by kernel_rfl) (fun _ _ _ _ h => h) (by rfl) ?_; apply Exists.intro; refine ⟨fun w1 h1 K hK => ?_, ?_⟩; · (have q9 : ∀ V : Aft w1, g < V.val.heap.size := fun V => (HBX.out.below (hP0 _ _ h1 V.below)).lt; go_big_quiet_op; first | exact hK | fail))
        (refine wpAnyP_take0 (i := 5) hP0 hP1 hC0 (by decide) (by rfl) rfl (by kernel_rfl) rfl (by kernel_rfl) (by kernel_rfl) (by kernel_rfl) (fun _ _ _ _ h => h) (by rfl) ?_; apply Exists.intro; refine ⟨fun w1 h1 K hK => ?_, ?_⟩; · (have q6 : ∀ V : Aft w1, V.val.cell? ⟨g, i * 9 + 6, none⟩ = some (.int .i64 llo) := fun V => (HBX.out.below (hP0 _ _ h1 V.below)).cell (i * 9 + 6) ((HR.out.2 i HIN.out 6 (by omega)).trans (by rw [updZ_self]; rfl));have q9 : ∀ V : Aft w1, g < V.val.heap.size := fun V => (HBX.out.below (hP0 _ _ h1 V.below)).lt; go_big_quiet_op; first | exact hK | fail))
        (refine wpAnyP_take0 (i := 6) hP0 hP1 hC0 (by decide) (by rfl) rfl (by kernel_rfl) rfl (by kernel_rfl) (by kernel_rfl) (by kernel_rfl) (fun _ _ _ _ h => h) (by rfl) ?_; apply Exists.intro; refine ⟨fun w1 h1 K hK => ?_, ?_⟩; · ( go_big_quiet_op; first | exact hK | fail))
        (refine wpAnyP_take0 (i := 7) hP0 hP1 hC0 (by decide) (by rfl) rfl (by kernel_rfl) rfl (by kernel_rfl) (by kernel_rfl) (by kernel_rfl) (fun _ _ _ _ h => h) (by rfl) ?_; apply Exists.intro; refine ⟨fun w1 h1 K hK => ?_, ?_⟩; · (have q9 : ∀ V : Aft w1, g < V.val.heap.size := fun V => (HBX.out.below (hP0 _ _ h1 V.below)).lt; go_big_quiet_op; first | exact hK | fail))
        (refine wpAnyP_take0 (i := 8) hP0 hP1 hC0 (by decide) (by rfl) rfl (by kernel_rfl) rfl (by kernel_rfl) (by kernel_rfl) (by kernel_rfl) (fun _ _ _ _ h => h) (by rfl) ?_; apply Exists.intro; refine ⟨fun w1 h1 K hK => ?_, ?_⟩; · (have q9 : ∀ V : Aft w1, g < V.val.heap.size := fun V => (HBX.out.below (hP0 _ _ h1 V.below)).lt; go_big_quiet_op; first | exact hK | fail))
        (refine wpAnyP_take0 (i := 9) hP0 hP1 hC0 (by decide) (by rfl) rfl (by kernel_rfl) rfl (by kernel_rfl) (by kernel_rfl) (by kernel_rfl) (fun _ _ _ _ h => h) (by rfl) ?_; apply Exists.intro; refine ⟨fun w1 h1 K hK => ?_, ?_⟩; · (have q9 : ∀ V : Aft w1, g < V.val.heap.size := fun V => (HBX.out.below (hP0 _ _ h1 V.below)).lt; go_big_quiet_op; first | exact hK | fail))
        (refine wpAnyP_take0 (i := 10) hP0 hP1 hC0 (by decide) (by rfl) rfl (by kernel_rfl) rfl (by kernel_rfl) (by kernel_rfl) (by kernel_rfl) (fun _ _ _ _ h => h) (by rfl) ?_; apply Exists.intro; refine ⟨fun w1 h1 K hK => ?_, ?_⟩; · (have q7 : ∀ V : Aft w1, V.val.cell? ⟨g, i * 9 + 7, none⟩ = some (.int .i64 lhi) := fun V => (HBX.out.below (hP0 _ _ h1 V.below)).cell (i * 9 + 7) ((HR.out.2 i HIN.out 7 (by omega)).trans (by rw [updZ_self]; rfl));have q9 : ∀ V : Aft w1, g < V.val.heap.size := fun V => (HBX.out.below (hP0 _ _ h1 V.below)).lt; go_big_quiet_op; first | exact hK | fail))
        (refine wpAnyP_take0 (i := 11) hP0 hP1 hC0 (by decide) (by rfl) rfl (by kernel_rfl) rfl (by kernel_rfl) (by kernel_rfl) (by kernel_rfl) (fun _ _ _ _ h => h) (by rfl) ?_; apply Exists.intro; refine ⟨fun w1 h1 K hK => ?_, ?_⟩; · ( go_big_quiet_op; first | exact hK | fail))
        (refine wpAnyP_take0 (i := 12) hP0 hP1 hC0 (by decide) (by rfl) rfl (by kernel_rfl) rfl (by kernel_rfl) (by kernel_rfl) (by kernel_rfl) (fun _ _ _ _ h => h) (by rfl) ?_; apply Exists.intro; refine ⟨fun w1 h1 K hK => ?_, ?_⟩; · ( go_big_quiet_op; first | exact hK | fail))
        (refine wpAnyP_take0 (i := 13) hP0 hP1 hC0 (by decide) (by rfl) rfl (by kernel_rfl) rfl (by kernel_rfl) (by kernel_rfl) (by kernel_rfl) (fun _ _ _ _ h => h) (by rfl) ?_; apply Exists.intro; refine ⟨fun w1 h1 K hK => ?_, ?_⟩; · ( go_big_quiet_op; first | exact hK | fail))
        (refine wpAnyP_take0 (i := 14) hP0 hP1 hC0 (by decide) (by rfl) rfl (by kernel_rfl) rfl (by kernel_rfl) (by kernel_rfl) (by kernel_rfl) (fun _ _ _ _ h => h) (by rfl) ?_; apply Exists.intro; refine ⟨fun w1 h1 K hK => ?_, ?_⟩; · ( go_big_quiet_op; first | exact hK | fail))
        (refine wpAnyP_take0 (i := 15) hP0 hP1 hC0 (by decide) (by rfl) rfl (by kernel_rfl) rfl (by kernel_rfl) (by kernel_rfl) (by kernel_rfl) (fun _ _ _ _ h => h) (by rfl) ?_; apply Exists.intro; refine ⟨fun w1 h1 K hK => ?_, ?_⟩; · ( go_big_quiet_op; first | exact hK | fail))
        (refine wpAnyP_take1 (i := 16) hP0 hP1 hP01 hC0 (by decide) rfl (by kernel_rfl) (by kernel_rfl) (by kernel_rfl) (fun _ _ _ _ h => h) (by rfl) ?_; apply Exists.intro; refine ⟨fun w1 h1 K hK => ?_, ?_⟩; · (have q9 : ∀ V : Aft w1, g < V.val.heap.size := fun V => hP1 _ _ h1 V.below; go_big_quiet_op; first | exact hK | fail))
        (refine wpAnyP_take1 (i := 17) hP0 hP1 hP01 hC0 (by decide) rfl (by kernel_rfl) (by kernel_rfl) (by kernel_rfl) (fun _ _ _ _ h => h) (by rfl) ?_; apply Exists.intro; refine ⟨fun w1 h1 K hK => ?_, ?_⟩; · (have q9 : ∀ V : Aft w1, g < V.val.heap.size := fun V => hP1 _ _ h1 V.below; go_big_quiet_op; first | exact hK | fail))
        (refine wpAnyP_take1 (i := 18) hP0 hP1 hP01 hC0 (by decide) rfl (by kernel_rfl) (by kernel_rfl) (by kernel_rfl) (fun _ _ _ _ h => h) (by rfl) ?_; apply Exists.intro; refine ⟨fun w1 h1 K hK => ?_, ?_⟩; · (have q9 : ∀ V : Aft w1, g < V.val.heap.size := fun V => hP1 _ _ h1 V.below; go_big_quiet_op; first | exact hK | fail))
        (refine wpAnyP_one (i := 19) (by kernel_rfl) rfl (by rfl) (fun wa hwa K hK => ?_))
        have hA1 := hP0 _ _ hC0 hwa
        have hsz := HR.out.1
        have hi9 := HIN.out
        refine wp_store_int (HBX.out.below hA1) rfl rfl rfl (by omega) (by kernel_rfl) (fun wb zs ho => ?_)
        dsimp only [Act.put]
        refine hK _ _ zs.lt ?_
        clear hK K
        refine wpAnyP_done (by kernel_rfl) (fun wz hwz => ?_) _
        have hLb := (HL.out.trans (hA1.mono HL.out.size)).trans (ho.below HG.out)
        have HL2 := Lib.hid (hLb.trans (hwz.mono hLb.size))
        have HBX2 := Lib.hid (zs.below hwz)
        have HR2 := Lib.hid (ZRow.fld (v := .int .i64 v3) (x := ⟨⟨v1, ihi⟩, ⟨mlo, v2⟩, ⟨elo, ehi⟩, ⟨llo, v3⟩, p⟩) HR.out hi9 (show 7 < 9 by omega) (cells_if rfl rfl rfl rfl rfl rfl rfl rfl rfl))
        clear hP0 hP1 hP01 hC0 hwa hA1 zs ho hLb hwz hsz hi9 tm hmx HBX HR HL
        obtain ⟨W12, hW⟩ : ∃ X, X = wz := ⟨_, rfl⟩
        rw [← hW] at HL2 HBX2 ⊢
        have HL := HL2
        have HBX := HBX2
        have HR := HR2
        clear hW HL2 HBX2 HR2 wz
        obtain ⟨cur12, hcc⟩ : ∃ c, c = cur11.setIfInBounds (i * 9 + 7) (.int .i64 v3) := ⟨_, rfl⟩
        rw [← hcc] at HR
        replace HBX := Lib.hid (show Box g cur12 48 W12 by rw [hcc]; exact HBX.out)
        clear hcc
        have hix : ∀ W : World, (Instr.indexAt 22 (.slice (some ⟨g, 0, none⟩) n cR) (.int .i64 (i : Nat))).run Try.prog W = .ok (.pointer (some ⟨g, i * 9, none⟩)) W := fun W => ix22 HIN.out W
        go_upto_region 12 with fail
        skip
        skip
        clear hix
        have hP0 : ∀ A B : World, Below W12.heap.size W12 A → Below A.heap.size A B → Below W12.heap.size W12 B := fun A B h1 h2 => h1.trans (h2.mono h1.size)
        have hP1 : ∀ A B : World, g < A.heap.size → Below A.heap.size A B → g < B.heap.size := fun _ _ h1 h2 => Nat.lt_of_lt_of_le h1 h2.size
        have hP01 : ∀ A : World, Below W12.heap.size W12 A → g < A.heap.size := fun _ h1 => Nat.lt_of_lt_of_le HBX.out.lt h1.size
        have hC0 : Below W12.heap.size W12 W12.drew := (Below.refl _ _).drew
        have tm := T3.out
        have hmx : (if elo + r3 < ehi then elo + r3 else ehi) = v4 := by rw [V4.out]; split <;> omega
        refine wp_region_phase 19 (fun A => Below W12.heap.size W12 A) (fun A => g < A.heap.size) (by kernel_rfl) ?_
        (refine wpAnyP_take0 (i := 0) hP0 hP1 hC0 (by decide) (by rfl) rfl (by kernel_rfl) rfl (by kernel_rfl) (by kernel_rfl) (by kernel_rfl) (fun _ _ _ _ h => h) (by rfl) ?_; apply Exists.intro; refine ⟨fun w1 h1 K hK => ?_, ?_⟩; · ( go_big_quiet_op; first | exact hK | fail))
        (refine wpAnyP_take0 (i := 1) hP0 hP1 hC0 (by decide) (by rfl) rfl (by kernel_rfl) rfl (by kernel_rfl) (by kernel_rfl) (by kernel_rfl) (fun _ _ _ _ h => h) (by rfl) ?_; apply Exists.intro; refine ⟨fun w1 h1 K hK => ?_, ?_⟩; · ( go_big_quiet_op; first | exact hK | fail))
        (refine wpAnyP_take0 (i := 2) hP0 hP1 hC0 (by decide) (by rfl) rfl (by kernel_rfl) rfl (by kernel_rfl) (by kernel_rfl) (by kernel_rfl) (fun _ _ _ _ h => h) (by rfl) ?_; apply Exists.intro; refine ⟨fun w1 h1 K hK => ?_, ?_⟩; · (have q9 : ∀ V : Aft w1, g < V.val.heap.size := fun V => (HBX.out.below (hP0 _ _ h1 V.below)).lt; go_big_quiet_op; first | exact hK | fail))
        (refine wpAnyP_take0 (i := 3) hP0 hP1 hC0 (by decide) (by rfl) rfl (by kernel_rfl) rfl (by kernel_rfl) (by kernel_rfl) (by kernel_rfl) (fun _ _ _ _ h => h) (by rfl) ?_; apply Exists.intro; refine ⟨fun w1 h1 K hK => ?_, ?_⟩; · (have q9 : ∀ V : Aft w1, g < V.val.heap.size := fun V => (HBX.out.below (hP0 _ _ h1 V.below)).lt; go_big_quiet_op; first | exact hK | fail))
        (refine wpAnyP_take0 (i := 4) hP0 hP1 hC0 (by decide) (by rfl) rfl (by kernel_rfl) rfl (by kernel_rfl) (by kernel_rfl) (by kernel_rfl) (fun _ _ _ _ h => h) (by rfl) ?_; apply Exists.intro; refine ⟨fun w1 h1 K hK => ?_, ?_⟩; · (have q9 : ∀ V : Aft w1, g < V.val.heap.size := fun V => (HBX.out.below (hP0 _ _ h1 V.below)).lt; go_big_quiet_op; first | exact hK | fail))
        (refine wpAnyP_take0 (i := 5) hP0 hP1 hC0 (by decide) (by rfl) rfl (by kernel_rfl) rfl (by kernel_rfl) (by kernel_rfl) (by kernel_rfl) (fun _ _ _ _ h => h) (by rfl) ?_; apply Exists.intro; refine ⟨fun w1 h1 K hK => ?_, ?_⟩; · (have q5 : ∀ V : Aft w1, V.val.cell? ⟨g, i * 9 + 5, none⟩ = some (.int .i64 ehi) := fun V => (HBX.out.below (hP0 _ _ h1 V.below)).cell (i * 9 + 5) ((HR.out.2 i HIN.out 5 (by omega)).trans (by rw [updZ_self]; rfl));have q9 : ∀ V : Aft w1, g < V.val.heap.size := fun V => (HBX.out.below (hP0 _ _ h1 V.below)).lt; go_big_quiet_op; first | exact hK | fail))
        (refine wpAnyP_take0 (i := 6) hP0 hP1 hC0 (by decide) (by rfl) rfl (by kernel_rfl) rfl (by kernel_rfl) (by kernel_rfl) (by kernel_rfl) (fun _ _ _ _ h => h) (by rfl) ?_; apply Exists.intro; refine ⟨fun w1 h1 K hK => ?_, ?_⟩; · ( go_big_quiet_op; first | exact hK | fail))
        (refine wpAnyP_take0 (i := 7) hP0 hP1 hC0 (by decide) (by rfl) rfl (by kernel_rfl) rfl (by kernel_rfl) (by kernel_rfl) (by kernel_rfl) (fun _ _ _ _ h => h) (by rfl) ?_; apply Exists.intro; refine ⟨fun w1 h1 K hK => ?_, ?_⟩; · (have q9 : ∀ V : Aft w1, g < V.val.heap.size := fun V => (HBX.out.below (hP0 _ _ h1 V.below)).lt; go_big_quiet_op; first | exact hK | fail))
        (refine wpAnyP_take0 (i := 8) hP0 hP1 hC0 (by decide) (by rfl) rfl (by kernel_rfl) rfl (by kernel_rfl) (by kernel_rfl) (by kernel_rfl) (fun _ _ _ _ h => h) (by rfl) ?_; apply Exists.intro; refine ⟨fun w1 h1 K hK => ?_, ?_⟩; · (have q9 : ∀ V : Aft w1, g < V.val.heap.size := fun V => (HBX.out.below (hP0 _ _ h1 V.below)).lt; go_big_quiet_op; first | exact hK | fail))
        (refine wpAnyP_take0 (i := 9) hP0 hP1 hC0 (by decide) (by rfl) rfl (by kernel_rfl) rfl (by kernel_rfl) (by kernel_rfl) (by kernel_rfl) (fun _ _ _ _ h => h) (by rfl) ?_; apply Exists.intro; refine ⟨fun w1 h1 K hK => ?_, ?_⟩; · (have q9 : ∀ V : Aft w1, g < V.val.heap.size := fun V => (HBX.out.below (hP0 _ _ h1 V.below)).lt; go_big_quiet_op; first | exact hK | fail))
        (refine wpAnyP_take0 (i := 10) hP0 hP1 hC0 (by decide) (by rfl) rfl (by kernel_rfl) rfl (by kernel_rfl) (by kernel_rfl) (by kernel_rfl) (fun _ _ _ _ h => h) (by rfl) ?_; apply Exists.intro; refine ⟨fun w1 h1 K hK => ?_, ?_⟩; · (have q4 : ∀ V : Aft w1, V.val.cell? ⟨g, i * 9 + 4, none⟩ = some (.int .i64 elo) := fun V => (HBX.out.below (hP0 _ _ h1 V.below)).cell (i * 9 + 4) ((HR.out.2 i HIN.out 4 (by omega)).trans (by rw [updZ_self]; rfl));have q9 : ∀ V : Aft w1, g < V.val.heap.size := fun V => (HBX.out.below (hP0 _ _ h1 V.below)).lt; go_big_quiet_op; first | exact hK | fail))
        (refine wpAnyP_take0 (i := 11) hP0 hP1 hC0 (by decide) (by rfl) rfl (by kernel_rfl) rfl (by kernel_rfl) (by kernel_rfl) (by kernel_rfl) (fun _ _ _ _ h => h) (by rfl) ?_; apply Exists.intro; refine ⟨fun w1 h1 K hK => ?_, ?_⟩; · ( go_big_quiet_op; first | exact hK | fail))
        (refine wpAnyP_take0 (i := 12) hP0 hP1 hC0 (by decide) (by rfl) rfl (by kernel_rfl) rfl (by kernel_rfl) (by kernel_rfl) (by kernel_rfl) (fun _ _ _ _ h => h) (by rfl) ?_; apply Exists.intro; refine ⟨fun w1 h1 K hK => ?_, ?_⟩; · ( go_big_quiet_op; first | exact hK | fail))
        (refine wpAnyP_take0 (i := 13) hP0 hP1 hC0 (by decide) (by rfl) rfl (by kernel_rfl) rfl (by kernel_rfl) (by kernel_rfl) (by kernel_rfl) (fun _ _ _ _ h => h) (by rfl) ?_; apply Exists.intro; refine ⟨fun w1 h1 K hK => ?_, ?_⟩; · ( go_big_quiet_op; first | exact hK | fail))
        (refine wpAnyP_take0 (i := 14) hP0 hP1 hC0 (by decide) (by rfl) rfl (by kernel_rfl) rfl (by kernel_rfl) (by kernel_rfl) (by kernel_rfl) (fun _ _ _ _ h => h) (by rfl) ?_; apply Exists.intro; refine ⟨fun w1 h1 K hK => ?_, ?_⟩; · ( go_big_quiet_op; first | exact hK | fail))
        (refine wpAnyP_take0 (i := 15) hP0 hP1 hC0 (by decide) (by rfl) rfl (by kernel_rfl) rfl (by kernel_rfl) (by kernel_rfl) (by kernel_rfl) (fun _ _ _ _ h => h) (by rfl) ?_; apply Exists.intro; refine ⟨fun w1 h1 K hK => ?_, ?_⟩; · ( go_big_quiet_op; first | exact hK | fail))
        (refine wpAnyP_take1 (i := 16) hP0 hP1 hP01 hC0 (by decide) rfl (by kernel_rfl) (by kernel_rfl) (by kernel_rfl) (fun _ _ _ _ h => h) (by rfl) ?_; apply Exists.intro; refine ⟨fun w1 h1 K hK => ?_, ?_⟩; · (have q9 : ∀ V : Aft w1, g < V.val.heap.size := fun V => hP1 _ _ h1 V.below; go_big_quiet_op; first | exact hK | fail))
        (refine wpAnyP_take1 (i := 17) hP0 hP1 hP01 hC0 (by decide) rfl (by kernel_rfl) (by kernel_rfl) (by kernel_rfl) (fun _ _ _ _ h => h) (by rfl) ?_; apply Exists.intro; refine ⟨fun w1 h1 K hK => ?_, ?_⟩; · (have q9 : ∀ V : Aft w1, g < V.val.heap.size := fun V => hP1 _ _ h1 V.below; go_big_quiet_op; first | exact hK | fail))
        (refine wpAnyP_take1 (i := 18) hP0 hP1 hP01 hC0 (by decide) rfl (by kernel_rfl) (by kernel_rfl) (by kernel_rfl) (fun _ _ _ _ h => h) (by rfl) ?_; apply Exists.intro; refine ⟨fun w1 h1 K hK => ?_, ?_⟩; · (have q9 : ∀ V : Aft w1, g < V.val.heap.size := fun V => hP1 _ _ h1 V.below; go_big_quiet_op; first | exact hK | fail))
        (refine wpAnyP_one (i := 19) (by kernel_rfl) rfl (by rfl) (fun wa hwa K hK => ?_))
        have hA1 := hP0 _ _ hC0 hwa
        have hsz := HR.out.1
        have hi9 := HIN.out
        refine wp_store_int (HBX.out.below hA1) rfl rfl rfl (by omega) (by kernel_rfl) (fun wb zs ho => ?_)
        dsimp only [Act.put]
        refine hK _ _ zs.lt ?_
        clear hK K
        refine wpAnyP_done (by kernel_rfl) (fun wz hwz => ?_) _
        have hLb := (HL.out.trans (hA1.mono HL.out.size)).trans (ho.below HG.out)
        have HL2 := Lib.hid (hLb.trans (hwz.mono hLb.size))
        have HBX2 := Lib.hid (zs.below hwz)
        have HR2 := Lib.hid (ZRow.fld (v := .int .i64 v4) (x := ⟨⟨v1, ihi⟩, ⟨mlo, v2⟩, ⟨v4, ehi⟩, ⟨llo, v3⟩, p⟩) HR.out hi9 (show 4 < 9 by omega) (cells_if rfl rfl rfl rfl rfl rfl rfl rfl rfl))
        clear hP0 hP1 hP01 hC0 hwa hA1 zs ho hLb hwz hsz hi9 tm hmx HBX HR HL
        obtain ⟨W13, hW⟩ : ∃ X, X = wz := ⟨_, rfl⟩
        rw [← hW] at HL2 HBX2 ⊢
        have HL := HL2
        have HBX := HBX2
        have HR := HR2
        clear hW HL2 HBX2 HR2 wz
        obtain ⟨cur13, hcc⟩ : ∃ c, c = cur12.setIfInBounds (i * 9 + 4) (.int .i64 v4) := ⟨_, rfl⟩
        rw [← hcc] at HR
        replace HBX := Lib.hid (show Box g cur13 48 W13 by rw [hcc]; exact HBX.out)
        clear hcc
        replace HR := Lib.hid (show ZRow n (updZ z i Zn) cur13 by rw [HNZ.out]; exact HR.out)
        clear HNZ T11 T7 T5 T3 hrb V1 V2 V3 V4 i1 i2 i3 m1 m2 m3 e1 e2 e3 l1 l2 l3
        have HL4 := Lib.hid (losses_any (some ⟨g, 0, none⟩) n cR (updZ z i Zn) W13 (by omega) (HR.out.at_ HBX.out))
        obtain ⟨z4, hz4⟩ : ∃ f, f = updZ z i Zn := ⟨_, rfl⟩
        rw [← hz4] at HL4 HNB
        simp only [← hz4] at HND
        clear hz4 HR HBX
        go_wp2_with fail
        refine HL4.out.mono ?_
        intro e w14 hp
        by_cases hal4 : AllR z4 n
        · as_aux_lemma =>
          obtain ⟨hb, oC, cC, rfl, hsc, -⟩ := loss_all hp HNB.out hal4
          obtain ⟨bC, oC9, hoC, -⟩ := hsc 0 (by omega)
          subst hoC
          have HSC := Lib.hid hsc
          have HDD := Lib.hid (HND.out hal4).2
          have hnn : ((n : Int) != (n : Int)) = false := by simp
          replace HL := Lib.hid (HL.out.trans (hb.mono HL.out.size))
          clear hp hb hsc hal4 HND HL4 HNB
          obtain ⟨w15, hw15⟩ : ∃ X, X = w14 := ⟨_, rfl⟩
          rw [← hw15] at HSC HL ⊢
          clear hw15 w14
          have HBF := Lib.hid (show ∀ k, k < n → ∀ V, Below w15.heap.size w15 V → bB < V.heap.size ∧ V.cell? ⟨bB, oB9 + k * 2, none⟩ = some (.int .i64 (dnF z n k).lo) ∧ V.cell? ⟨bB, oB9 + k * 2 + 1, none⟩ = some (.int .i64 (dnF z n k).hi) from fun k hk V hV => by
            obtain ⟨b9, o9, e9, h1, h2, h3⟩ := (HSBW.out V (HL.out.trans (hV.mono HL.out.size))) k hk
            cases e9
            exact ⟨h1, h2, h3⟩)
          have HCF := Lib.hid (show ∀ k, k < n → ∀ V, Below w15.heap.size w15 V → bC < V.heap.size ∧ V.cell? ⟨bC, oC9 + k * 2, none⟩ = some (.int .i64 (dnF z4 n k).lo) ∧ V.cell? ⟨bC, oC9 + k * 2 + 1, none⟩ = some (.int .i64 (dnF z4 n k).hi) from fun k hk V hV => by
            obtain ⟨b9, o9, e9, h1, h2, h3⟩ := (HSC.out.mono hV) k hk
            cases e9
            exact ⟨h1, h2, h3⟩)
          clear HSC
          go_wp2_with fail
          go_loopw [14] (fun v14 wr => ∃ k : Nat, k ≤ n ∧ v14 = .int .i64 k ∧ Hid (Below w15.heap.size w15 wr)) (fun v14 _ => n - (intOf v14).toNat)
          case atStart => exact ⟨0, Nat.zero_le _, rfl, Lib.hid (Below.refl _ _)⟩
          case round =>
            obtain ⟨k, hk, rfl, HL5⟩ := hrel
            by_cases hlt : k < n
            · as_aux_lemma =>
              have hk0 : (0 : Int) ≤ (k : Int) := by omega
              have hk1 : (k : Int) < (n : Int) := by omega
              have HB1 := Lib.hid (fun V hV => HBF.out k hlt V hV)
              have HC1 := Lib.hid (fun V hV => HCF.out k hlt V hV)
              have hdd := HDD.out k hlt
              obtain ⟨D, hD⟩ : ∃ D, D = dnF z n k := ⟨_, rfl⟩
              obtain ⟨C, hC⟩ : ∃ D, D = dnF z4 n k := ⟨_, rfl⟩
              rw [← hD] at HB1
              rw [← hC] at HC1
              rw [← hD, ← hC] at hdd
              clear hD hC
              obtain ⟨dlo, dhi⟩ := D
              obtain ⟨clo, chi⟩ := C
              simp only at HB1 HC1 hdd
              have g1 : decide (clo < dlo) = false := decide_eq_false (by omega)
              have g2 : decide (dhi < chi) = false := decide_eq_false (by omega)
              go_upto_region 20 with fail
              have q0 : ∀ V : Aft wr, V.val.cell? ⟨bB, oB9 + k * 2, none⟩ = some (.int .i64 dlo) := fun V => (HB1.out V.val (HL5.out.trans (V.below.mono HL5.out.size))).2.1
              have q1 : ∀ V : Aft wr, V.val.cell? ⟨bB, oB9 + k * 2 + 1, none⟩ = some (.int .i64 dhi) := fun V => (HB1.out V.val (HL5.out.trans (V.below.mono HL5.out.size))).2.2
              have q2 : ∀ V : Aft wr, bB < V.val.heap.size := fun V => (HB1.out V.val (HL5.out.trans (V.below.mono HL5.out.size))).1
              have q3 : ∀ V : Aft wr, V.val.cell? ⟨bC, oC9 + k * 2, none⟩ = some (.int .i64 clo) := fun V => (HC1.out V.val (HL5.out.trans (V.below.mono HL5.out.size))).2.1
              have q4 : ∀ V : Aft wr, V.val.cell? ⟨bC, oC9 + k * 2 + 1, none⟩ = some (.int .i64 chi) := fun V => (HC1.out V.val (HL5.out.trans (V.below.mono HL5.out.size))).2.2
              have q5 : ∀ V : Aft wr, bC < V.val.heap.size := fun V => (HC1.out V.val (HL5.out.trans (V.below.mono HL5.out.size))).1
              refine wp_region_aft (by kernel_rfl) (by kernel_rfl) ?_
              repeat (go_big_quiet_step (fail))
              refine wpQuiet_nil ?_
              intro WA
              obtain ⟨wy, hwy⟩ : ∃ X, X = WA.val := ⟨_, rfl⟩
              have hby := WA.below
              rw [← hwy] at hby ⊢
              clear hwy WA
              replace HL5 := Lib.hid (HL5.out.trans (hby.mono HL5.out.size))
              clear q0 q1 q2 q3 q4 q5 hby g1 g2
              go_wp2_with fail
              go_roundw
              case rel => exact ⟨k + 1, by omega, by go_num, HL5⟩
              case measure => simp [intOf]; omega
            · have hkn : n = k := by omega
              subst hkn
              replace HL := Lib.hid (HL.out.trans (HL5.out.mono HL.out.size))
              clear HL5 HBF HCF HDD
              as_aux_lemma =>
                by_cases hin : i + 1 < n
                · obtain ⟨j, hj⟩ : ∃ j, j = i + 1 := ⟨_, rfl⟩
                  have hji : (i : Int) + 1 = (j : Int) := by omega
                  have j0 : (0 : Int) ≤ (j : Int) := by omega
                  have j1 : (j : Int) < (n : Int) := by omega
                  have j2 : decide ((n : Int) ≤ (j : Int)) = false := decide_eq_false (by omega)
                  obtain ⟨bq, oq, hoq, hlq, -, -, -, -, -, -, -, -, cq8⟩ := HA.out _ HL.out j (by omega)
                  cases hoq
                  have HSW := Lib.hid (fun h => swZ_swp HTR.out hin h)
                  have HSL := Lib.hid (fun h => swZ_list HLB.out hin h)
                  have HST := Lib.hid (swZ_start HTR.out HIN.out)
                  rw [← hj] at HSW HSL HST
                  obtain ⟨pp, hpp⟩ : ∃ v, v = (z j).p := ⟨_, rfl⟩
                  rw [← hpp] at cq8 HSW HSL
                  have HPP := Lib.hid hpp
                  have HJ := Lib.hid hj
                  clear hpp hj
                  by_cases hpe : pp = (i : Int)
                  · have hpb : (pp == (i : Int)) = true := by simpa using hpe
                    go_wp2_with fail
                    refine (awake_any _).mono ?_
                    rintro e wz ⟨rfl, hb⟩
                    replace HL := Lib.hid (HL.out.trans (hb.mono HL.out.size))
                    go_wp2_with fail
                    go_ret
                    exact ⟨rfl, HB.out.trans (HL.out.mono HB.out.size)⟩
                  · have hpb : (pp == (i : Int)) = false := by simpa using hpe
                    have HSY := Lib.hid (HSW.out hpe)
                    have HSB2 := Lib.hid (HSL.out hpe)
                    clear HSW HSL hpe
                    go_wp2_with (at_builtin; refine wpList_append_gen rfl (.tmp 205) (.tmp 206) _ rfl wr.heap.size 48 iR _ 9 72 Try.underlying22 HIR.out HZR.out.1 HZR.out.2.1 HZR.out.2.2 rfl (by omega) (.slice (some ⟨wr.heap.size, 0, none⟩) 0 0) 0 [] rfl (some ⟨b0, off0, none⟩) n ca (zonNews n z) rfl (owns_empty (Nat.le_refl _) (heap_new rfl)) (fun e9 => by cases e9) (zonNews_length n z) (fun ad9 e9 j9 u9 hu9 => (zons_news (HA.out _ (HL.out.alloc HL.out.size _))) ad9 e9 j9 u9 hu9) zons_one (by simp only [maxLen]; omega) (by omega) (by simp) ?_; intro vS wS hownS hgrowS)
                    rw [Nat.zero_add, List.nil_append] at hownS
                    obtain ⟨g5, c5, cv0, rfl, hgb, hbx, hzr⟩ := owns_zrow hownS (by omega)
                    have hb : Below wr.heap.size wr wS := below_grown (below_alloc1 wr (.cells #[] 48)) (owns_empty (e := 48) (size := 9) (Nat.le_refl _) (heap_new rfl)) hgrowS
                    have HG5 := Lib.hid (show W.heap.size ≤ g5 by have := HL.out.size; omega)
                    replace HL := Lib.hid (HL.out.trans (hb.mono HL.out.size))
                    have HBX := Lib.hid hbx
                    have HR := Lib.hid hzr
                    clear hownS hgrowS hbx hzr hgb hb cq8 hpb j2 hlq
                    go_upto_region 27 with fail
                    have HF1 := Lib.hid (show ∀ V, Below wS.heap.size wS V → b0 < V.heap.size ∧ (V.cell? ⟨b0, off0 + i * 9, none⟩ = some (.int .i64 (z i).i.lo) ∧ V.cell? ⟨b0, off0 + i * 9 + 1, none⟩ = some (.int .i64 (z i).i.hi) ∧ V.cell? ⟨b0, off0 + i * 9 + 1 + 1, none⟩ = some (.int .i64 (z i).m.lo) ∧ V.cell? ⟨b0, off0 + i * 9 + 1 + 1 + 1, none⟩ = some (.int .i64 (z i).m.hi) ∧ V.cell? ⟨b0, off0 + i * 9 + 1 + 1 + 1 + 1, none⟩ = some (.int .i64 (z i).e.lo) ∧ V.cell? ⟨b0, off0 + i * 9 + 1 + 1 + 1 + 1 + 1, none⟩ = some (.int .i64 (z i).e.hi) ∧ V.cell? ⟨b0, off0 + i * 9 + 1 + 1 + 1 + 1 + 1 + 1, none⟩ = some (.int .i64 (z i).l.lo) ∧ V.cell? ⟨b0, off0 + i * 9 + 1 + 1 + 1 + 1 + 1 + 1 + 1, none⟩ = some (.int .i64 (z i).l.hi) ∧ V.cell? ⟨b0, off0 + i * 9 + 1 + 1 + 1 + 1 + 1 + 1 + 1 + 1, none⟩ = some (.int .i64 (z i).p)) from fun V hV => by
                      obtain ⟨b9, o9, e9, h1, h2⟩ := HA.out _ (HL.out.trans (hV.mono HL.out.size)) i HIN.out
                      cases e9
                      exact ⟨h1, h2⟩)
                    have HF2 := Lib.hid (show ∀ V, Below wS.heap.size wS V → (V.cell? ⟨b0, off0 + j * 9, none⟩ = some (.int .i64 (z j).i.lo) ∧ V.cell? ⟨b0, off0 + j * 9 + 1, none⟩ = some (.int .i64 (z j).i.hi) ∧ V.cell? ⟨b0, off0 + j * 9 + 1 + 1, none⟩ = some (.int .i64 (z j).m.lo) ∧ V.cell? ⟨b0, off0 + j * 9 + 1 + 1 + 1, none⟩ = some (.int .i64 (z j).m.hi) ∧ V.cell? ⟨b0, off0 + j * 9 + 1 + 1 + 1 + 1, none⟩ = some (.int .i64 (z j).e.lo) ∧ V.cell? ⟨b0, off0 + j * 9 + 1 + 1 + 1 + 1 + 1, none⟩ = some (.int .i64 (z j).e.hi) ∧ V.cell? ⟨b0, off0 + j * 9 + 1 + 1 + 1 + 1 + 1 + 1, none⟩ = some (.int .i64 (z j).l.lo) ∧ V.cell? ⟨b0, off0 + j * 9 + 1 + 1 + 1 + 1 + 1 + 1 + 1, none⟩ = some (.int .i64 (z j).l.hi) ∧ V.cell? ⟨b0, off0 + j * 9 + 1 + 1 + 1 + 1 + 1 + 1 + 1 + 1, none⟩ = some (.int .i64 (z j).p)) from fun V hV => by
                      obtain ⟨b9, o9, e9, h1, h2⟩ := HA.out _ (HL.out.trans (hV.mono HL.out.size)) j (by have := HJ.out; omega)
                      cases e9
                      exact h2)
                    have HR1 := Lib.hid (HR.out.set HIN.out (z j))
                    have HR3 := Lib.hid (show ZRow n (swZ z i (j + 1)) (setA (setA cv0 (i * 9) (z j).cells.toList) (j * 9) (z i).cells.toList) by
                      have h9 := HR1.out.set (i := j) (by omega) (z i)
                      rw [HST.out] at h9
                      rw [show j + 1 = i + 2 by have := HJ.out; omega]
                      exact h9)
                    have HSZ := Lib.hid (show n * 9 ≤ cv0.size from HR.out.1)
                    clear HR HR1 HST
                    obtain ⟨Zi, hZi⟩ : ∃ Zi, Zi = z i := ⟨_, rfl⟩
                    obtain ⟨Zj, hZj⟩ : ∃ Zi, Zi = z j := ⟨_, rfl⟩
                    rw [← hZi] at HF1
                    rw [← hZj] at HF2
                    rw [← hZi, ← hZj] at HR3
                    clear hZi hZj HPP
                    obtain ⟨⟨a0, a1⟩, ⟨a2, a3⟩, ⟨a4, a5⟩, ⟨a6, a7⟩, a8⟩ := Zi
                    obtain ⟨⟨d0, d1⟩, ⟨d2, d3⟩, ⟨d4, d5⟩, ⟨d6, d7⟩, d8⟩ := Zj
                    simp only at HF1 HF2
                    have hP0 : ∀ A B : World, Below wS.heap.size wS A → Below A.heap.size A B → Below wS.heap.size wS B := fun A B h1 h2 => h1.trans (h2.mono h1.size)
                    have hP1 : ∀ A B : World, g5 < A.heap.size → Below A.heap.size A B → g5 < B.heap.size := fun _ _ h1 h2 => Nat.lt_of_lt_of_le h1 h2.size
                    have hP01 : ∀ A : World, Below wS.heap.size wS A → g5 < A.heap.size := fun _ h1 => Nat.lt_of_lt_of_le HBX.out.lt h1.size
                    have hC0 : Below wS.heap.size wS wS.drew := (Below.refl _ _).drew
                    refine wp_region_phase 15 (fun A => Below wS.heap.size wS A) (fun A => g5 < A.heap.size) (by kernel_rfl) ?_
                    (refine wpAnyP_take0 (i := 0) hP0 hP1 hC0 (by decide) (by rfl) rfl (by kernel_rfl) rfl (by kernel_rfl) (by kernel_rfl) (by kernel_rfl) (fun _ _ _ _ h => h) (by rfl) ?_; apply Exists.intro; refine ⟨fun w1 h1 K hK => ?_, ?_⟩; · ( go_big_quiet_op; first | exact hK | fail))
                    (refine wpAnyP_take0 (i := 1) hP0 hP1 hC0 (by decide) (by rfl) rfl (by kernel_rfl) rfl (by kernel_rfl) (by kernel_rfl) (by kernel_rfl) (fun _ _ _ _ h => h) (by rfl) ?_; apply Exists.intro; refine ⟨fun w1 h1 K hK => ?_, ?_⟩; · ( go_big_quiet_op; first | exact hK | fail))
                    (refine wpAnyP_take0 (i := 5) hP0 hP1 hC0 (by decide) (by rfl) rfl (by kernel_rfl) rfl (by kernel_rfl) (by kernel_rfl) (by kernel_rfl) (fun _ _ _ _ h => h) (by rfl) ?_; apply Exists.intro; refine ⟨fun w1 h1 K hK => ?_, ?_⟩; · ( go_big_quiet_op; first | exact hK | fail))
                    (refine wpAnyP_take0 (i := 6) hP0 hP1 hC0 (by decide) (by rfl) rfl (by kernel_rfl) rfl (by kernel_rfl) (by kernel_rfl) (by kernel_rfl) (fun _ _ _ _ h => h) (by rfl) ?_; apply Exists.intro; refine ⟨fun w1 h1 K hK => ?_, ?_⟩; · ( go_big_quiet_op; first | exact hK | fail))
                    (refine wpAnyP_take0 (i := 7) hP0 hP1 hC0 (by decide) (by rfl) rfl (by kernel_rfl) rfl (by kernel_rfl) (by kernel_rfl) (by kernel_rfl) (fun _ _ _ _ h => h) (by rfl) ?_; apply Exists.intro; refine ⟨fun w1 h1 K hK => ?_, ?_⟩; · ( go_big_quiet_op; first | exact hK | fail))
                    (refine wpAnyP_take0 (i := 8) hP0 hP1 hC0 (by decide) (by rfl) rfl (by kernel_rfl) rfl (by kernel_rfl) (by kernel_rfl) (by kernel_rfl) (fun _ _ _ _ h => h) (by rfl) ?_; apply Exists.intro; refine ⟨fun w1 h1 K hK => ?_, ?_⟩; · ( go_big_quiet_op; first | exact hK | fail))
                    (refine wpAnyP_take0 (i := 9) hP0 hP1 hC0 (by decide) (by rfl) rfl (by kernel_rfl) rfl (by kernel_rfl) (by kernel_rfl) (by kernel_rfl) (fun _ _ _ _ h => h) (by rfl) ?_; apply Exists.intro; refine ⟨fun w1 h1 K hK => ?_, ?_⟩; · (have q0 : ∀ V : Aft w1, V.val.cell? ⟨b0, off0 + j * 9, none⟩ = some (.int .i64 d0) := fun V => (HF2.out V.val (hP0 _ _ h1 V.below)).1; have q1 : ∀ V : Aft w1, V.val.cell? ⟨b0, off0 + j * 9 + 1, none⟩ = some (.int .i64 d1) := fun V => (HF2.out V.val (hP0 _ _ h1 V.below)).2.1; have q2 : ∀ V : Aft w1, V.val.cell? ⟨b0, off0 + j * 9 + 1 + 1, none⟩ = some (.int .i64 d2) := fun V => (HF2.out V.val (hP0 _ _ h1 V.below)).2.2.1; have q3 : ∀ V : Aft w1, V.val.cell? ⟨b0, off0 + j * 9 + 1 + 1 + 1, none⟩ = some (.int .i64 d3) := fun V => (HF2.out V.val (hP0 _ _ h1 V.below)).2.2.2.1; have q4 : ∀ V : Aft w1, V.val.cell? ⟨b0, off0 + j * 9 + 1 + 1 + 1 + 1, none⟩ = some (.int .i64 d4) := fun V => (HF2.out V.val (hP0 _ _ h1 V.below)).2.2.2.2.1; have q5 : ∀ V : Aft w1, V.val.cell? ⟨b0, off0 + j * 9 + 1 + 1 + 1 + 1 + 1, none⟩ = some (.int .i64 d5) := fun V => (HF2.out V.val (hP0 _ _ h1 V.below)).2.2.2.2.2.1; have q6 : ∀ V : Aft w1, V.val.cell? ⟨b0, off0 + j * 9 + 1 + 1 + 1 + 1 + 1 + 1, none⟩ = some (.int .i64 d6) := fun V => (HF2.out V.val (hP0 _ _ h1 V.below)).2.2.2.2.2.2.1; have q7 : ∀ V : Aft w1, V.val.cell? ⟨b0, off0 + j * 9 + 1 + 1 + 1 + 1 + 1 + 1 + 1, none⟩ = some (.int .i64 d7) := fun V => (HF2.out V.val (hP0 _ _ h1 V.below)).2.2.2.2.2.2.2.1; have q8 : ∀ V : Aft w1, V.val.cell? ⟨b0, off0 + j * 9 + 1 + 1 + 1 + 1 + 1 + 1 + 1 + 1, none⟩ = some (.int .i64 d8) := fun V => (HF2.out V.val (hP0 _ _ h1 V.below)).2.2.2.2.2.2.2.2; have q9 : ∀ V : Aft w1, b0 < V.val.heap.size := fun V => (HF1.out V.val (hP0 _ _ h1 V.below)).1; go_big_quiet_op; first | exact hK | fail))
                    (refine wpAnyP_take1 (i := 10) hP0 hP1 hP01 hC0 (by decide) rfl (by kernel_rfl) (by kernel_rfl) (by kernel_rfl) (fun _ _ _ _ h => h) (by rfl) ?_; apply Exists.intro; refine ⟨fun w1 h1 K hK => ?_, ?_⟩; · ( go_big_quiet_op; first | exact hK | fail))
                    (refine wpAnyP_take1 (i := 11) hP0 hP1 hP01 hC0 (by decide) rfl (by kernel_rfl) (by kernel_rfl) (by kernel_rfl) (fun _ _ _ _ h => h) (by rfl) ?_; apply Exists.intro; refine ⟨fun w1 h1 K hK => ?_, ?_⟩; · ( go_big_quiet_op; first | exact hK | fail))
                    (refine wpAnyP_take1 (i := 12) hP0 hP1 hP01 hC0 (by decide) rfl (by kernel_rfl) (by kernel_rfl) (by kernel_rfl) (fun _ _ _ _ h => h) (by rfl) ?_; apply Exists.intro; refine ⟨fun w1 h1 K hK => ?_, ?_⟩; · ( go_big_quiet_op; first | exact hK | fail))
                    (refine wpAnyP_take0 (i := 13) hP0 hP1 hC0 (by decide) (by rfl) rfl (by kernel_rfl) rfl (by kernel_rfl) (by kernel_rfl) (by kernel_rfl) (fun _ _ _ _ h => h) (by rfl) ?_; apply Exists.intro; refine ⟨fun w1 h1 K hK => ?_, ?_⟩; · (have q0 : ∀ V : Aft w1, V.val.cell? ⟨b0, off0 + i * 9, none⟩ = some (.int .i64 a0) := fun V => (HF1.out V.val (hP0 _ _ h1 V.below)).2.1; have q1 : ∀ V : Aft w1, V.val.cell? ⟨b0, off0 + i * 9 + 1, none⟩ = some (.int .i64 a1) := fun V => (HF1.out V.val (hP0 _ _ h1 V.below)).2.2.1; have q2 : ∀ V : Aft w1, V.val.cell? ⟨b0, off0 + i * 9 + 1 + 1, none⟩ = some (.int .i64 a2) := fun V => (HF1.out V.val (hP0 _ _ h1 V.below)).2.2.2.1; have q3 : ∀ V : Aft w1, V.val.cell? ⟨b0, off0 + i * 9 + 1 + 1 + 1, none⟩ = some (.int .i64 a3) := fun V => (HF1.out V.val (hP0 _ _ h1 V.below)).2.2.2.2.1; have q4 : ∀ V : Aft w1, V.val.cell? ⟨b0, off0 + i * 9 + 1 + 1 + 1 + 1, none⟩ = some (.int .i64 a4) := fun V => (HF1.out V.val (hP0 _ _ h1 V.below)).2.2.2.2.2.1; have q5 : ∀ V : Aft w1, V.val.cell? ⟨b0, off0 + i * 9 + 1 + 1 + 1 + 1 + 1, none⟩ = some (.int .i64 a5) := fun V => (HF1.out V.val (hP0 _ _ h1 V.below)).2.2.2.2.2.2.1; have q6 : ∀ V : Aft w1, V.val.cell? ⟨b0, off0 + i * 9 + 1 + 1 + 1 + 1 + 1 + 1, none⟩ = some (.int .i64 a6) := fun V => (HF1.out V.val (hP0 _ _ h1 V.below)).2.2.2.2.2.2.2.1; have q7 : ∀ V : Aft w1, V.val.cell? ⟨b0, off0 + i * 9 + 1 + 1 + 1 + 1 + 1 + 1 + 1, none⟩ = some (.int .i64 a7) := fun V => (HF1.out V.val (hP0 _ _ h1 V.below)).2.2.2.2.2.2.2.2.1; have q8 : ∀ V : Aft w1, V.val.cell? ⟨b0, off0 + i * 9 + 1 + 1 + 1 + 1 + 1 + 1 + 1 + 1, none⟩ = some (.int .i64 a8) := fun V => (HF1.out V.val (hP0 _ _ h1 V.below)).2.2.2.2.2.2.2.2.2; have q9 : ∀ V : Aft w1, b0 < V.val.heap.size := fun V => (HF1.out V.val (hP0 _ _ h1 V.below)).1; go_big_quiet_op; first | exact hK | fail))
                    (refine wpAnyP_take1 (i := 2) hP0 hP1 hP01 hC0 (by decide) rfl (by kernel_rfl) (by kernel_rfl) (by kernel_rfl) (fun _ _ _ _ h => h) (by rfl) ?_; apply Exists.intro; refine ⟨fun w1 h1 K hK => ?_, ?_⟩; · ( go_big_quiet_op; first | exact hK | fail))
                    (refine wpAnyP_take1 (i := 3) hP0 hP1 hP01 hC0 (by decide) rfl (by kernel_rfl) (by kernel_rfl) (by kernel_rfl) (fun _ _ _ _ h => h) (by rfl) ?_; apply Exists.intro; refine ⟨fun w1 h1 K hK => ?_, ?_⟩; · ( go_big_quiet_op; first | exact hK | fail))
                    (refine wpAnyP_take1 (i := 4) hP0 hP1 hP01 hC0 (by decide) rfl (by kernel_rfl) (by kernel_rfl) (by kernel_rfl) (fun _ _ _ _ h => h) (by rfl) ?_; apply Exists.intro; refine ⟨fun w1 h1 K hK => ?_, ?_⟩; · ( go_big_quiet_op; first | exact hK | fail))
                    (refine wpAnyP_take1 (i := 14) hP0 hP1 hP01 hC0 (by decide) rfl (by kernel_rfl) (by kernel_rfl) (by kernel_rfl) (fun _ _ _ _ h => h) (by rfl) ?_; apply Exists.intro; refine ⟨fun w1 h1 K hK => ?_, ?_⟩; · ( go_big_quiet_op; first | exact hK | fail))
                    (refine wpAnyP_one (i := 15) (by kernel_rfl) rfl (by rfl) (fun wa hwa K hK => ?_))
                    have hA1 := hP0 _ _ hC0 hwa
                    have hsz := HSZ.out
                    have hi9 := HIN.out
                    refine wp_store_at (HBX.out.below hA1) rfl rfl rfl (by simp; omega) (by kernel_rfl) (by simp [Value.oneCell']) (fun wb zs ho => ?_)
                    dsimp only [Act.put]
                    refine hK _ _ zs.lt ?_
                    clear hK K
                    have hLb := (HL.out.trans (hA1.mono HL.out.size)).trans (ho.below HG5.out)
                    have hC1 := zs.lt
                    clear hC0
                    have hC0 := hC1
                    clear hC1
                    (refine wpAnyP_one (i := 16) (by kernel_rfl) rfl (by rfl) (fun wc hwc K hK => ?_))
                    go_simp
                    refine hK _ _ (Nat.lt_of_lt_of_le zs.lt hwc.size) ?_
                    clear hK K
                    replace zs := zs.below hwc
                    replace hLb := hLb.trans (hwc.mono hLb.size)
                    (refine wpAnyP_one (i := 17) (by kernel_rfl) rfl (by rfl) (fun wd hwd K hK => ?_))
                    have hLd := hLb.trans (hwd.mono hLb.size)
                    refine wp_store_at (zs.below hwd) rfl rfl rfl (by rw [setA_size]; simp; omega) (by kernel_rfl) (by simp [Value.oneCell']) (fun we zt ho2 => ?_)
                    dsimp only [Act.put]
                    refine hK _ _ zt.lt ?_
                    clear hK K
                    refine wpAnyP_done (by kernel_rfl) (fun wz hwz => ?_) _
                    have hLe := hLd.trans (ho2.below HG5.out)
                    have HL2 := Lib.hid (hLe.trans (hwz.mono hLe.size))
                    have HBX2 := Lib.hid (zt.below hwz)
                    clear hP0 hP1 hP01 hC0 hwa hA1 zs ho hLb hwz hwc hwd zt ho2 hLd hLe hsz hi9 HBX HL HF1 HF2 HSZ
                    obtain ⟨cv1, hcv⟩ : ∃ c, c = setA (setA cv0 (i * 9) #[.int .i64 d0, .int .i64 d1, .int .i64 d2, .int .i64 d3, .int .i64 d4, .int .i64 d5, .int .i64 d6, .int .i64 d7, .int .i64 d8].toList) (j * 9) #[.int .i64 a0, .int .i64 a1, .int .i64 a2, .int .i64 a3, .int .i64 a4, .int .i64 a5, .int .i64 a6, .int .i64 a7, .int .i64 a8].toList := ⟨_, rfl⟩
                    have HBX := Lib.hid (show Box g5 cv1 48 wz by rw [hcv]; exact HBX2.out)
                    replace HR3 := Lib.hid (show ZRow n (swZ z i (j + 1)) cv1 by rw [hcv]; exact HR3.out)
                    have HL := HL2
                    clear hcv HBX2 HL2 cv0
                    go_wp2_with fail
                    go_loopw [16] (fun v16 wr => ∃ (m : Nat) (cv : Array Value), j + 1 ≤ m ∧ m ≤ n ∧ v16 = .int .i64 m ∧ Hid (ZRow n (swZ z i m) cv) ∧ Hid (Box g5 cv 48 wr) ∧ Hid (Below W.heap.size W wr)) (fun v16 _ => n - (intOf v16).toNat)
                    case atStart => exact ⟨j + 1, cv1, Nat.le_refl _, by omega, by have := HJ.out; simp; omega, HR3, HBX, HL⟩
                    case round =>
                      clear HL HBX HR3
                      obtain ⟨m, cv, hm0, hm, rfl, HR, HBX, HL⟩ := hrel
                      have HM2 := Lib.hid (show i + 2 ≤ m by have := HJ.out; omega)
                      by_cases hmlt : m < n
                      · have hk0 : (0 : Int) ≤ (m : Int) := by omega
                        have hk1 : (m : Int) < (n : Int) := by omega
                        obtain ⟨b9, o9, e9, hl9, -, -, -, -, -, -, -, -, c8⟩ := HA.out _ HL.out m hmlt
                        cases e9
                        have HSTP := Lib.hid (swZ_step (z := z) HM2.out)
                        have HAT := Lib.hid (swZ_at (z := z) HM2.out)
                        have HMN := Lib.hid hmlt
                        have hcell := HBX.out.cell (m * 9 + 8) ((HR.out.2 m hmlt 8 (by omega)).trans (by rw [HAT.out]; rfl))
                        have hfz := HBX.out.frozen (m * 9 + 8)
                        have hlt5 := HBX.out.lt
                        have hsz := HR.out.1
                        have hix : ∀ W : World, (Instr.indexAt 22 (.slice (some ⟨g5, 0, none⟩) n c5) (.int .i64 (m : Nat))).run Try.prog W = .ok (.pointer (some ⟨g5, m * 9, none⟩)) W := fun W => ix22 hmlt W
                        have HREN := Lib.hid (show (z m).ren i = ⟨(z m).i, (z m).m, (z m).e, (z m).l, swP i (z m).p⟩ from rfl)
                        have HRS := Lib.hid (fun a b => ren_same (x := z m) (i := i) a b)
                        obtain ⟨Zm, hZm⟩ : ∃ Zm, Zm = z m := ⟨_, rfl⟩
                        rw [← hZm] at c8 HSTP HAT hcell HREN HRS
                        clear hZm
                        obtain ⟨⟨f0, f1⟩, ⟨f2, f3⟩, ⟨f4, f5⟩, ⟨f6, f7⟩, f8⟩ := Zm
                        simp only at c8 hcell HREN HRS
                        by_cases hp1 : f8 = (i : Int)
                        · as_aux_lemma =>
                          have hpb : (f8 == (i : Int)) = true := by simpa using hp1
                          have HNR := Lib.hid (show ZRow n (swZ z i (m + 1)) (cv.setIfInBounds (m * 9 + 8) (.int .i64 (j : Nat))) by
                            rw [HSTP.out, HREN.out]
                            refine ZRow.set1 HR.out HMN.out (by omega) ?_
                            rw [HAT.out]
                            have e9 : swP i f8 = (j : Int) := by unfold swP; rw [if_pos hp1]; have := HJ.out; omega
                            rw [e9]
                            exact cells_if rfl rfl rfl rfl rfl rfl rfl rfl rfl)
                          have hpj : (f8 == (j : Int)) = false := by simp; have := HJ.out; omega
                          clear hp1 HSTP HREN HAT HRS
                          go_upto_region 33 with fail
                          have ho := (Only.refl g5 wr).setCell (m * 9 + 8) (.int .i64 (j : Nat))
                          have HL2 := Lib.hid (HL.out.trans (ho.below HG5.out))
                          have HBX2 := Lib.hid (HBX.out.set (m * 9 + 8) (.int .i64 (j : Nat)))
                          clear hcell hfz hlt5
                          obtain ⟨b9, o9, e9, hl9, -, -, -, -, -, -, -, -, c8⟩ := HA.out _ HL2.out m HMN.out
                          cases e9
                          go_wp2_with fail
                          go_roundw
                          case rel => exact ⟨m + 1, _, by omega, by omega, by go_num, HNR, HBX2, HL2⟩
                          case measure => simp [intOf]; omega
                        · have hpb : (f8 == (i : Int)) = false := by simpa using hp1
                          by_cases hp2 : f8 = (j : Int)
                          · as_aux_lemma =>
                            have hpj : (f8 == (j : Int)) = true := by simpa using hp2
                            have HNR := Lib.hid (show ZRow n (swZ z i (m + 1)) (cv.setIfInBounds (m * 9 + 8) (.int .i64 (i : Nat))) by
                              rw [HSTP.out, HREN.out]
                              refine ZRow.set1 HR.out HMN.out (by omega) ?_
                              rw [HAT.out]
                              have e9 : swP i f8 = (i : Int) := by unfold swP; rw [if_neg hp1, if_pos (by have := HJ.out; omega)]
                              rw [e9]
                              exact cells_if rfl rfl rfl rfl rfl rfl rfl rfl rfl)
                            have ho := (Only.refl g5 wr).setCell (m * 9 + 8) (.int .i64 (i : Nat))
                            have HL2 := Lib.hid (HL.out.trans (ho.below HG5.out))
                            have HBX2 := Lib.hid (HBX.out.set (m * 9 + 8) (.int .i64 (i : Nat)))
                            clear hp1 hp2 HSTP HREN HAT HRS ho
                            go_wp2_with fail
                            go_roundw
                            case rel => exact ⟨m + 1, _, by omega, by omega, by go_num, HNR, HBX2, HL2⟩
                            case measure => simp [intOf]; omega
                          · as_aux_lemma =>
                            have hpj : (f8 == (j : Int)) = false := by simpa using hp2
                            have HNR := Lib.hid (show ZRow n (swZ z i (m + 1)) cv by
                              rw [HSTP.out, HRS.out hp1 (by have := HJ.out; omega), ← HAT.out, updZ_id]
                              exact HR.out)
                            clear hp1 hp2 HSTP HREN HAT HRS hcell hfz hlt5
                            go_wp2_with fail
                            go_roundw
                            case rel => exact ⟨m + 1, cv, by omega, by omega, by go_num, HNR, HBX, HL⟩
                            case measure => simp [intOf]; omega
                      · have hmn : n = m := by omega
                        subst hmn
                        as_aux_lemma =>
                          have HL6 := Lib.hid (losses_any (some ⟨g5, 0, none⟩) n c5 (swZ z i n) wr (by omega) (HR.out.at_ HBX.out))
                          clear HR HBX
                          have HSA := Lib.hid (HSY.out.1.all HTR.out HSY.out.2)
                          have HSD := Lib.hid (HSY.out.1.dn HTR.out HSY.out.2)
                          have HII := Lib.hid HSY.out.1.hi
                          obtain ⟨y9, hy9⟩ : ∃ f, f = swZ z i n := ⟨_, rfl⟩
                          rw [← hy9] at HL6 HSA HSB2
                          simp only [← hy9] at HSD
                          clear hy9 HSY
                          go_wp2_with fail
                          refine HL6.out.mono ?_
                          intro e w16 hp
                          obtain ⟨hb, oE, cE, rfl, hse, -⟩ := loss_all hp HSB2.out (HSA.out.2 HALL.out)
                          obtain ⟨bE, oE9, hoE, -⟩ := hse 0 (by omega)
                          subst hoE
                          have HSE := Lib.hid hse
                          have hnn : ((n : Int) != (n : Int)) = false := by simp
                          replace HL := Lib.hid (HL.out.trans (hb.mono HL.out.size))
                          clear hp hb hse HL6 HSA
                          have HBF := Lib.hid (show ∀ k, k < n → ∀ V, Below w16.heap.size w16 V → bB < V.heap.size ∧ V.cell? ⟨bB, oB9 + k * 2, none⟩ = some (.int .i64 (dnF z n k).lo) ∧ V.cell? ⟨bB, oB9 + k * 2 + 1, none⟩ = some (.int .i64 (dnF z n k).hi) from fun k hk V hV => by
                            obtain ⟨b9, o9, e9, h1, h2, h3⟩ := (HSBW.out V (HL.out.trans (hV.mono HL.out.size))) k hk
                            cases e9
                            exact ⟨h1, h2, h3⟩)
                          have HEF := Lib.hid (show ∀ k, k < n → ∀ V, Below w16.heap.size w16 V → bE < V.heap.size ∧ V.cell? ⟨bE, oE9 + k * 2, none⟩ = some (.int .i64 (dnF y9 n k).lo) ∧ V.cell? ⟨bE, oE9 + k * 2 + 1, none⟩ = some (.int .i64 (dnF y9 n k).hi) from fun k hk V hV => by
                            obtain ⟨b9, o9, e9, h1, h2, h3⟩ := (HSE.out.mono hV) k hk
                            cases e9
                            exact ⟨h1, h2, h3⟩)
                          have HEQ := Lib.hid (show ∀ k, k < n → dnF y9 n k = dnF z n (sw i k) from fun k hk => by
                            have := HSD.out (sw i k) (sw_lt HII.out hk)
                            rw [sw_sw] at this
                            exact this)
                          clear HSE HSD
                          go_wp2_with fail
                          go_loopw [19] (fun v19 wr => ∃ k : Nat, k ≤ n ∧ v19 = .int .i64 k ∧ Hid (Below w16.heap.size w16 wr)) (fun v19 _ => n - (intOf v19).toNat)
                          case atStart => exact ⟨0, Nat.zero_le _, rfl, Lib.hid (Below.refl _ _)⟩
                          case round =>
                            obtain ⟨k, hk, rfl, HL7⟩ := hrel
                            by_cases hlt : k < n
                            · have hk0 : (0 : Int) ≤ (k : Int) := by omega
                              have hk1 : (k : Int) < (n : Int) := by omega
                              have HSK := Lib.hid (sw_lt HII.out hlt)
                              have HB1 := Lib.hid (fun V hV => HBF.out (sw i k) HSK.out V hV)
                              have HE1 := Lib.hid (fun V hV => HEF.out k hlt V hV)
                              rw [HEQ.out k hlt] at HE1
                              have HCMP := Lib.hid (fun V : World => neq41 (dnF z n (sw i k)) (dnF z n (sw i k)) V)
                              obtain ⟨D, hD⟩ : ∃ D, D = dnF z n (sw i k) := ⟨_, rfl⟩
                              rw [← hD] at HB1 HE1
                              simp only [← hD] at HCMP
                              clear hD
                              obtain ⟨dlo, dhi⟩ := D
                              simp only at HB1 HE1 HCMP
                              have hcm : ∀ V : World, (binOp .neq 41 (.agg #[.int .i64 dlo, .int .i64 dhi]) (.agg #[.int .i64 dlo, .int .i64 dhi])).run Try.prog V = .ok (.bool false) V := fun V => (HCMP.out V).trans (by simp)
                              clear HCMP
                              by_cases hki : k = i
                              · as_aux_lemma =>
                                subst hki
                                have hs : sw k k = j := by rw [HJ.out]; exact if_pos rfl
                                rw [hs] at HB1
                                have hkb : ((k : Int) == (k : Int)) = true := by simp
                                have hkj : ((k : Int) == (j : Int)) = false := by simp; have := HJ.out; omega
                                go_upto_region 46 with fail
                                have q0 : ∀ V : Aft wr, V.val.cell? ⟨bB, oB9 + j * 2, none⟩ = some (.int .i64 dlo) := fun V => (HB1.out V.val (HL7.out.trans (V.below.mono HL7.out.size))).2.1
                                have q1 : ∀ V : Aft wr, V.val.cell? ⟨bB, oB9 + j * 2 + 1, none⟩ = some (.int .i64 dhi) := fun V => (HB1.out V.val (HL7.out.trans (V.below.mono HL7.out.size))).2.2
                                have q2 : ∀ V : Aft wr, bB < V.val.heap.size := fun V => (HB1.out V.val (HL7.out.trans (V.below.mono HL7.out.size))).1
                                have q3 : ∀ V : Aft wr, V.val.cell? ⟨bE, oE9 + k * 2, none⟩ = some (.int .i64 dlo) := fun V => (HE1.out V.val (HL7.out.trans (V.below.mono HL7.out.size))).2.1
                                have q4 : ∀ V : Aft wr, V.val.cell? ⟨bE, oE9 + k * 2 + 1, none⟩ = some (.int .i64 dhi) := fun V => (HE1.out V.val (HL7.out.trans (V.below.mono HL7.out.size))).2.2
                                have q5 : ∀ V : Aft wr, bE < V.val.heap.size := fun V => (HE1.out V.val (HL7.out.trans (V.below.mono HL7.out.size))).1
                                refine wp_region_aft (by kernel_rfl) (by kernel_rfl) ?_
                                repeat (go_big_quiet_step (fail))
                                refine wpQuiet_nil ?_
                                intro WA
                                obtain ⟨wy, hwy⟩ : ∃ X, X = WA.val := ⟨_, rfl⟩
                                have hby := WA.below
                                rw [← hwy] at hby ⊢
                                clear hwy WA
                                replace HL7 := Lib.hid (HL7.out.trans (hby.mono HL7.out.size))
                                clear q0 q1 q2 q3 q4 q5 hby hcm
                                go_wp2_with fail
                                go_roundw
                                case rel => exact ⟨k + 1, by omega, by go_num, HL7⟩
                                case measure => simp [intOf]; omega
                              · have hkb : ((k : Int) == (i : Int)) = false := by simp; omega
                                by_cases hkj : k = j
                                · as_aux_lemma =>
                                  subst hkj
                                  have hs : sw i k = i := by unfold sw; rw [if_neg hki, if_pos HJ.out]
                                  rw [hs] at HB1
                                  have hkk : ((k : Int) == (k : Int)) = true := by simp
                                  go_upto_region 46 with fail
                                  have q0 : ∀ V : Aft wr, V.val.cell? ⟨bB, oB9 + i * 2, none⟩ = some (.int .i64 dlo) := fun V => (HB1.out V.val (HL7.out.trans (V.below.mono HL7.out.size))).2.1
                                  have q1 : ∀ V : Aft wr, V.val.cell? ⟨bB, oB9 + i * 2 + 1, none⟩ = some (.int .i64 dhi) := fun V => (HB1.out V.val (HL7.out.trans (V.below.mono HL7.out.size))).2.2
                                  have q2 : ∀ V : Aft wr, bB < V.val.heap.size := fun V => (HB1.out V.val (HL7.out.trans (V.below.mono HL7.out.size))).1
                                  have q3 : ∀ V : Aft wr, V.val.cell? ⟨bE, oE9 + k * 2, none⟩ = some (.int .i64 dlo) := fun V => (HE1.out V.val (HL7.out.trans (V.below.mono HL7.out.size))).2.1
                                  have q4 : ∀ V : Aft wr, V.val.cell? ⟨bE, oE9 + k * 2 + 1, none⟩ = some (.int .i64 dhi) := fun V => (HE1.out V.val (HL7.out.trans (V.below.mono HL7.out.size))).2.2
                                  have q5 : ∀ V : Aft wr, bE < V.val.heap.size := fun V => (HE1.out V.val (HL7.out.trans (V.below.mono HL7.out.size))).1
                                  refine wp_region_aft (by kernel_rfl) (by kernel_rfl) ?_
                                  repeat (go_big_quiet_step (fail))
                                  refine wpQuiet_nil ?_
                                  intro WA
                                  obtain ⟨wy, hwy⟩ : ∃ X, X = WA.val := ⟨_, rfl⟩
                                  have hby := WA.below
                                  rw [← hwy] at hby ⊢
                                  clear hwy WA
                                  replace HL7 := Lib.hid (HL7.out.trans (hby.mono HL7.out.size))
                                  clear q0 q1 q2 q3 q4 q5 hby hcm
                                  go_wp2_with fail
                                  go_roundw
                                  case rel => exact ⟨k + 1, by omega, by go_num, HL7⟩
                                  case measure => simp [intOf]; omega
                                · as_aux_lemma =>
                                  have hs : sw i k = k := by unfold sw; rw [if_neg hki, if_neg (by have := HJ.out; omega)]
                                  rw [hs] at HB1
                                  have hkk : ((k : Int) == (j : Int)) = false := by simp; omega
                                  go_upto_region 46 with fail
                                  have q0 : ∀ V : Aft wr, V.val.cell? ⟨bB, oB9 + k * 2, none⟩ = some (.int .i64 dlo) := fun V => (HB1.out V.val (HL7.out.trans (V.below.mono HL7.out.size))).2.1
                                  have q1 : ∀ V : Aft wr, V.val.cell? ⟨bB, oB9 + k * 2 + 1, none⟩ = some (.int .i64 dhi) := fun V => (HB1.out V.val (HL7.out.trans (V.below.mono HL7.out.size))).2.2
                                  have q2 : ∀ V : Aft wr, bB < V.val.heap.size := fun V => (HB1.out V.val (HL7.out.trans (V.below.mono HL7.out.size))).1
                                  have q3 : ∀ V : Aft wr, V.val.cell? ⟨bE, oE9 + k * 2, none⟩ = some (.int .i64 dlo) := fun V => (HE1.out V.val (HL7.out.trans (V.below.mono HL7.out.size))).2.1
                                  have q4 : ∀ V : Aft wr, V.val.cell? ⟨bE, oE9 + k * 2 + 1, none⟩ = some (.int .i64 dhi) := fun V => (HE1.out V.val (HL7.out.trans (V.below.mono HL7.out.size))).2.2
                                  have q5 : ∀ V : Aft wr, bE < V.val.heap.size := fun V => (HE1.out V.val (HL7.out.trans (V.below.mono HL7.out.size))).1
                                  refine wp_region_aft (by kernel_rfl) (by kernel_rfl) ?_
                                  repeat (go_big_quiet_step (fail))
                                  refine wpQuiet_nil ?_
                                  intro WA
                                  obtain ⟨wy, hwy⟩ : ∃ X, X = WA.val := ⟨_, rfl⟩
                                  have hby := WA.below
                                  rw [← hwy] at hby ⊢
                                  clear hwy WA
                                  replace HL7 := Lib.hid (HL7.out.trans (hby.mono HL7.out.size))
                                  clear q0 q1 q2 q3 q4 q5 hby hcm
                                  go_wp2_with fail
                                  go_roundw
                                  case rel => exact ⟨k + 1, by omega, by go_num, HL7⟩
                                  case measure => simp [intOf]; omega
                            · have hkn : n = k := by omega
                              subst hkn
                              replace HL := Lib.hid (HL.out.trans (HL7.out.mono HL.out.size))
                              go_wp2_with fail
                              refine (awake_any _).mono ?_
                              rintro e wz ⟨rfl, hb⟩
                              replace HL := Lib.hid (HL.out.trans (hb.mono HL.out.size))
                              go_wp2_with fail
                              go_ret
                              exact ⟨rfl, HB.out.trans (HL.out.mono HB.out.size)⟩
                · have j2 : decide ((n : Int) ≤ (i : Int) + 1) = true := decide_eq_true (by omega)
                  go_wp2_with fail
                  refine (awake_any _).mono ?_
                  rintro e wz ⟨rfl, hb⟩
                  replace HL := Lib.hid (HL.out.trans (hb.mono HL.out.size))
                  go_wp2_with fail
                  go_ret
                  exact ⟨rfl, HB.out.trans (HL.out.mono HB.out.size)⟩
        · as_aux_lemma =>
          obtain ⟨rfl, hb⟩ := loss_none hp HNB.out hal4
          replace HL := Lib.hid (HL.out.trans (hb.mono HL.out.size))
          clear hp hb hal4 HND HL4 HNB
          obtain ⟨wr, hwr⟩ : ∃ X, X = w14 := ⟨_, rfl⟩
          rw [← hwr] at HL ⊢
          clear hwr w14
          by_cases hin : i + 1 < n
          · obtain ⟨j, hj⟩ : ∃ j, j = i + 1 := ⟨_, rfl⟩
            have hji : (i : Int) + 1 = (j : Int) := by omega
            have j0 : (0 : Int) ≤ (j : Int) := by omega
            have j1 : (j : Int) < (n : Int) := by omega
            have j2 : decide ((n : Int) ≤ (j : Int)) = false := decide_eq_false (by omega)
            obtain ⟨bq, oq, hoq, hlq, -, -, -, -, -, -, -, -, cq8⟩ := HA.out _ HL.out j (by omega)
            cases hoq
            have HSW := Lib.hid (fun h => swZ_swp HTR.out hin h)
            have HSL := Lib.hid (fun h => swZ_list HLB.out hin h)
            have HST := Lib.hid (swZ_start HTR.out HIN.out)
            rw [← hj] at HSW HSL HST
            obtain ⟨pp, hpp⟩ : ∃ v, v = (z j).p := ⟨_, rfl⟩
            rw [← hpp] at cq8 HSW HSL
            have HPP := Lib.hid hpp
            have HJ := Lib.hid hj
            clear hpp hj
            by_cases hpe : pp = (i : Int)
            · have hpb : (pp == (i : Int)) = true := by simpa using hpe
              go_wp2_with fail
              refine (awake_any _).mono ?_
              rintro e wz ⟨rfl, hb⟩
              replace HL := Lib.hid (HL.out.trans (hb.mono HL.out.size))
              go_wp2_with fail
              go_ret
              exact ⟨rfl, HB.out.trans (HL.out.mono HB.out.size)⟩
            · have hpb : (pp == (i : Int)) = false := by simpa using hpe
              have HSY := Lib.hid (HSW.out hpe)
              have HSB2 := Lib.hid (HSL.out hpe)
              clear HSW HSL hpe
              go_wp2_with (at_builtin; refine wpList_append_gen rfl (.tmp 205) (.tmp 206) _ rfl wr.heap.size 48 iR _ 9 72 Try.underlying22 HIR.out HZR.out.1 HZR.out.2.1 HZR.out.2.2 rfl (by omega) (.slice (some ⟨wr.heap.size, 0, none⟩) 0 0) 0 [] rfl (some ⟨b0, off0, none⟩) n ca (zonNews n z) rfl (owns_empty (Nat.le_refl _) (heap_new rfl)) (fun e9 => by cases e9) (zonNews_length n z) (fun ad9 e9 j9 u9 hu9 => (zons_news (HA.out _ (HL.out.alloc HL.out.size _))) ad9 e9 j9 u9 hu9) zons_one (by simp only [maxLen]; omega) (by omega) (by simp) ?_; intro vS wS hownS hgrowS)
              rw [Nat.zero_add, List.nil_append] at hownS
              obtain ⟨g5, c5, cv0, rfl, hgb, hbx, hzr⟩ := owns_zrow hownS (by omega)
              have hb : Below wr.heap.size wr wS := below_grown (below_alloc1 wr (.cells #[] 48)) (owns_empty (e := 48) (size := 9) (Nat.le_refl _) (heap_new rfl)) hgrowS
              have HG5 := Lib.hid (show W.heap.size ≤ g5 by have := HL.out.size; omega)
              replace HL := Lib.hid (HL.out.trans (hb.mono HL.out.size))
              have HBX := Lib.hid hbx
              have HR := Lib.hid hzr
              clear hownS hgrowS hbx hzr hgb hb cq8 hpb j2 hlq
              go_upto_region 27 with fail
              have HF1 := Lib.hid (show ∀ V, Below wS.heap.size wS V → b0 < V.heap.size ∧ (V.cell? ⟨b0, off0 + i * 9, none⟩ = some (.int .i64 (z i).i.lo) ∧ V.cell? ⟨b0, off0 + i * 9 + 1, none⟩ = some (.int .i64 (z i).i.hi) ∧ V.cell? ⟨b0, off0 + i * 9 + 1 + 1, none⟩ = some (.int .i64 (z i).m.lo) ∧ V.cell? ⟨b0, off0 + i * 9 + 1 + 1 + 1, none⟩ = some (.int .i64 (z i).m.hi) ∧ V.cell? ⟨b0, off0 + i * 9 + 1 + 1 + 1 + 1, none⟩ = some (.int .i64 (z i).e.lo) ∧ V.cell? ⟨b0, off0 + i * 9 + 1 + 1 + 1 + 1 + 1, none⟩ = some (.int .i64 (z i).e.hi) ∧ V.cell? ⟨b0, off0 + i * 9 + 1 + 1 + 1 + 1 + 1 + 1, none⟩ = some (.int .i64 (z i).l.lo) ∧ V.cell? ⟨b0, off0 + i * 9 + 1 + 1 + 1 + 1 + 1 + 1 + 1, none⟩ = some (.int .i64 (z i).l.hi) ∧ V.cell? ⟨b0, off0 + i * 9 + 1 + 1 + 1 + 1 + 1 + 1 + 1 + 1, none⟩ = some (.int .i64 (z i).p)) from fun V hV => by
                obtain ⟨b9, o9, e9, h1, h2⟩ := HA.out _ (HL.out.trans (hV.mono HL.out.size)) i HIN.out
                cases e9
                exact ⟨h1, h2⟩)
              have HF2 := Lib.hid (show ∀ V, Below wS.heap.size wS V → (V.cell? ⟨b0, off0 + j * 9, none⟩ = some (.int .i64 (z j).i.lo) ∧ V.cell? ⟨b0, off0 + j * 9 + 1, none⟩ = some (.int .i64 (z j).i.hi) ∧ V.cell? ⟨b0, off0 + j * 9 + 1 + 1, none⟩ = some (.int .i64 (z j).m.lo) ∧ V.cell? ⟨b0, off0 + j * 9 + 1 + 1 + 1, none⟩ = some (.int .i64 (z j).m.hi) ∧ V.cell? ⟨b0, off0 + j * 9 + 1 + 1 + 1 + 1, none⟩ = some (.int .i64 (z j).e.lo) ∧ V.cell? ⟨b0, off0 + j * 9 + 1 + 1 + 1 + 1 + 1, none⟩ = some (.int .i64 (z j).e.hi) ∧ V.cell? ⟨b0, off0 + j * 9 + 1 + 1 + 1 + 1 + 1 + 1, none⟩ = some (.int .i64 (z j).l.lo) ∧ V.cell? ⟨b0, off0 + j * 9 + 1 + 1 + 1 + 1 + 1 + 1 + 1, none⟩ = some (.int .i64 (z j).l.hi) ∧ V.cell? ⟨b0, off0 + j * 9 + 1 + 1 + 1 + 1 + 1 + 1 + 1 + 1, none⟩ = some (.int .i64 (z j).p)) from fun V hV => by
                obtain ⟨b9, o9, e9, h1, h2⟩ := HA.out _ (HL.out.trans (hV.mono HL.out.size)) j (by have := HJ.out; omega)
                cases e9
                exact h2)
              have HR1 := Lib.hid (HR.out.set HIN.out (z j))
              have HR3 := Lib.hid (show ZRow n (swZ z i (j + 1)) (setA (setA cv0 (i * 9) (z j).cells.toList) (j * 9) (z i).cells.toList) by
                have h9 := HR1.out.set (i := j) (by omega) (z i)
                rw [HST.out] at h9
                rw [show j + 1 = i + 2 by have := HJ.out; omega]
                exact h9)
              have HSZ := Lib.hid (show n * 9 ≤ cv0.size from HR.out.1)
              clear HR HR1 HST
              obtain ⟨Zi, hZi⟩ : ∃ Zi, Zi = z i := ⟨_, rfl⟩
              obtain ⟨Zj, hZj⟩ : ∃ Zi, Zi = z j := ⟨_, rfl⟩
              rw [← hZi] at HF1
              rw [← hZj] at HF2
              rw [← hZi, ← hZj] at HR3
              clear hZi hZj HPP
              obtain ⟨⟨a0, a1⟩, ⟨a2, a3⟩, ⟨a4, a5⟩, ⟨a6, a7⟩, a8⟩ := Zi
              obtain ⟨⟨d0, d1⟩, ⟨d2, d3⟩, ⟨d4, d5⟩, ⟨d6, d7⟩, d8⟩ := Zj
              simp only at HF1 HF2
              have hP0 : ∀ A B : World, Below wS.heap.size wS A → Below A.heap.size A B → Below wS.heap.size wS B := fun A B h1 h2 => h1.trans (h2.mono h1.size)
              have hP1 : ∀ A B : World, g5 < A.heap.size → Below A.heap.size A B → g5 < B.heap.size := fun _ _ h1 h2 => Nat.lt_of_lt_of_le h1 h2.size
              have hP01 : ∀ A : World, Below wS.heap.size wS A → g5 < A.heap.size := fun _ h1 => Nat.lt_of_lt_of_le HBX.out.lt h1.size
              have hC0 : Below wS.heap.size wS wS.drew := (Below.refl _ _).drew
              refine wp_region_phase 15 (fun A => Below wS.heap.size wS A) (fun A => g5 < A.heap.size) (by kernel_rfl) ?_
              (refine wpAnyP_take0 (i := 0) hP0 hP1 hC0 (by decide) (by rfl) rfl (by kernel_rfl) rfl (by kernel_rfl) (by kernel_rfl) (by kernel_rfl) (fun _ _ _ _ h => h) (by rfl) ?_; apply Exists.intro; refine ⟨fun w1 h1 K hK => ?_, ?_⟩; · ( go_big_quiet_op; first | exact hK | fail))
              (refine wpAnyP_take0 (i := 1) hP0 hP1 hC0 (by decide) (by rfl) rfl (by kernel_rfl) rfl (by kernel_rfl) (by kernel_rfl) (by kernel_rfl) (fun _ _ _ _ h => h) (by rfl) ?_; apply Exists.intro; refine ⟨fun w1 h1 K hK => ?_, ?_⟩; · ( go_big_quiet_op; first | exact hK | fail))
              (refine wpAnyP_take0 (i := 5) hP0 hP1 hC0 (by decide) (by rfl) rfl (by kernel_rfl) rfl (by kernel_rfl) (by kernel_rfl) (by kernel_rfl) (fun _ _ _ _ h => h) (by rfl) ?_; apply Exists.intro; refine ⟨fun w1 h1 K hK => ?_, ?_⟩; · ( go_big_quiet_op; first | exact hK | fail))
              (refine wpAnyP_take0 (i := 6) hP0 hP1 hC0 (by decide) (by rfl) rfl (by kernel_rfl) rfl (by kernel_rfl) (by kernel_rfl) (by kernel_rfl) (fun _ _ _ _ h => h) (by rfl) ?_; apply Exists.intro; refine ⟨fun w1 h1 K hK => ?_, ?_⟩; · ( go_big_quiet_op; first | exact hK | fail))
              (refine wpAnyP_take0 (i := 7) hP0 hP1 hC0 (by decide) (by rfl) rfl (by kernel_rfl) rfl (by kernel_rfl) (by kernel_rfl) (by kernel_rfl) (fun _ _ _ _ h => h) (by rfl) ?_; apply Exists.intro; refine ⟨fun w1 h1 K hK => ?_, ?_⟩; · ( go_big_quiet_op; first | exact hK | fail))
              (refine wpAnyP_take0 (i := 8) hP0 hP1 hC0 (by decide) (by rfl) rfl (by kernel_rfl) rfl (by kernel_rfl) (by kernel_rfl) (by kernel_rfl) (fun _ _ _ _ h => h) (by rfl) ?_; apply Exists.intro; refine ⟨fun w1 h1 K hK => ?_, ?_⟩; · ( go_big_quiet_op; first | exact hK | fail))
              (refine wpAnyP_take0 (i := 9) hP0 hP1 hC0 (by decide) (by rfl) rfl (by kernel_rfl) rfl (by kernel_rfl) (by kernel_rfl) (by kernel_rfl) (fun _ _ _ _ h => h) (by rfl) ?_; apply Exists.intro; refine ⟨fun w1 h1 K hK => ?_, ?_⟩; · (have q0 : ∀ V : Aft w1, V.val.cell? ⟨b0, off0 + j * 9, none⟩ = some (.int .i64 d0) := fun V => (HF2.out V.val (hP0 _ _ h1 V.below)).1; have q1 : ∀ V : Aft w1, V.val.cell? ⟨b0, off0 + j * 9 + 1, none⟩ = some (.int .i64 d1) := fun V => (HF2.out V.val (hP0 _ _ h1 V.below)).2.1; have q2 : ∀ V : Aft w1, V.val.cell? ⟨b0, off0 + j * 9 + 1 + 1, none⟩ = some (.int .i64 d2) := fun V => (HF2.out V.val (hP0 _ _ h1 V.below)).2.2.1; have q3 : ∀ V : Aft w1, V.val.cell? ⟨b0, off0 + j * 9 + 1 + 1 + 1, none⟩ = some (.int .i64 d3) := fun V => (HF2.out V.val (hP0 _ _ h1 V.below)).2.2.2.1; have q4 : ∀ V : Aft w1, V.val.cell? ⟨b0, off0 + j * 9 + 1 + 1 + 1 + 1, none⟩ = some (.int .i64 d4) := fun V => (HF2.out V.val (hP0 _ _ h1 V.below)).2.2.2.2.1; have q5 : ∀ V : Aft w1, V.val.cell? ⟨b0, off0 + j * 9 + 1 + 1 + 1 + 1 + 1, none⟩ = some (.int .i64 d5) := fun V => (HF2.out V.val (hP0 _ _ h1 V.below)).2.2.2.2.2.1; have q6 : ∀ V : Aft w1, V.val.cell? ⟨b0, off0 + j * 9 + 1 + 1 + 1 + 1 + 1 + 1, none⟩ = some (.int .i64 d6) := fun V => (HF2.out V.val (hP0 _ _ h1 V.below)).2.2.2.2.2.2.1; have q7 : ∀ V : Aft w1, V.val.cell? ⟨b0, off0 + j * 9 + 1 + 1 + 1 + 1 + 1 + 1 + 1, none⟩ = some (.int .i64 d7) := fun V => (HF2.out V.val (hP0 _ _ h1 V.below)).2.2.2.2.2.2.2.1; have q8 : ∀ V : Aft w1, V.val.cell? ⟨b0, off0 + j * 9 + 1 + 1 + 1 + 1 + 1 + 1 + 1 + 1, none⟩ = some (.int .i64 d8) := fun V => (HF2.out V.val (hP0 _ _ h1 V.below)).2.2.2.2.2.2.2.2; have q9 : ∀ V : Aft w1, b0 < V.val.heap.size := fun V => (HF1.out V.val (hP0 _ _ h1 V.below)).1; go_big_quiet_op; first | exact hK | fail))
              (refine wpAnyP_take1 (i := 10) hP0 hP1 hP01 hC0 (by decide) rfl (by kernel_rfl) (by kernel_rfl) (by kernel_rfl) (fun _ _ _ _ h => h) (by rfl) ?_; apply Exists.intro; refine ⟨fun w1 h1 K hK => ?_, ?_⟩; · ( go_big_quiet_op; first | exact hK | fail))
              (refine wpAnyP_take1 (i := 11) hP0 hP1 hP01 hC0 (by decide) rfl (by kernel_rfl) (by kernel_rfl) (by kernel_rfl) (fun _ _ _ _ h => h) (by rfl) ?_; apply Exists.intro; refine ⟨fun w1 h1 K hK => ?_, ?_⟩; · ( go_big_quiet_op; first | exact hK | fail))
              (refine wpAnyP_take1 (i := 12) hP0 hP1 hP01 hC0 (by decide) rfl (by kernel_rfl) (by kernel_rfl) (by kernel_rfl) (fun _ _ _ _ h => h) (by rfl) ?_; apply Exists.intro; refine ⟨fun w1 h1 K hK => ?_, ?_⟩; · ( go_big_quiet_op; first | exact hK | fail))
              (refine wpAnyP_take0 (i := 13) hP0 hP1 hC0 (by decide) (by rfl) rfl (by kernel_rfl) rfl (by kernel_rfl) (by kernel_rfl) (by kernel_rfl) (fun _ _ _ _ h => h) (by rfl) ?_; apply Exists.intro; refine ⟨fun w1 h1 K hK => ?_, ?_⟩; · (have q0 : ∀ V : Aft w1, V.val.cell? ⟨b0, off0 + i * 9, none⟩ = some (.int .i64 a0) := fun V => (HF1.out V.val (hP0 _ _ h1 V.below)).2.1; have q1 : ∀ V : Aft w1, V.val.cell? ⟨b0, off0 + i * 9 + 1, none⟩ = some (.int .i64 a1) := fun V => (HF1.out V.val (hP0 _ _ h1 V.below)).2.2.1; have q2 : ∀ V : Aft w1, V.val.cell? ⟨b0, off0 + i * 9 + 1 + 1, none⟩ = some (.int .i64 a2) := fun V => (HF1.out V.val (hP0 _ _ h1 V.below)).2.2.2.1; have q3 : ∀ V : Aft w1, V.val.cell? ⟨b0, off0 + i * 9 + 1 + 1 + 1, none⟩ = some (.int .i64 a3) := fun V => (HF1.out V.val (hP0 _ _ h1 V.below)).2.2.2.2.1; have q4 : ∀ V : Aft w1, V.val.cell? ⟨b0, off0 + i * 9 + 1 + 1 + 1 + 1, none⟩ = some (.int .i64 a4) := fun V => (HF1.out V.val (hP0 _ _ h1 V.below)).2.2.2.2.2.1; have q5 : ∀ V : Aft w1, V.val.cell? ⟨b0, off0 + i * 9 + 1 + 1 + 1 + 1 + 1, none⟩ = some (.int .i64 a5) := fun V => (HF1.out V.val (hP0 _ _ h1 V.below)).2.2.2.2.2.2.1; have q6 : ∀ V : Aft w1, V.val.cell? ⟨b0, off0 + i * 9 + 1 + 1 + 1 + 1 + 1 + 1, none⟩ = some (.int .i64 a6) := fun V => (HF1.out V.val (hP0 _ _ h1 V.below)).2.2.2.2.2.2.2.1; have q7 : ∀ V : Aft w1, V.val.cell? ⟨b0, off0 + i * 9 + 1 + 1 + 1 + 1 + 1 + 1 + 1, none⟩ = some (.int .i64 a7) := fun V => (HF1.out V.val (hP0 _ _ h1 V.below)).2.2.2.2.2.2.2.2.1; have q8 : ∀ V : Aft w1, V.val.cell? ⟨b0, off0 + i * 9 + 1 + 1 + 1 + 1 + 1 + 1 + 1 + 1, none⟩ = some (.int .i64 a8) := fun V => (HF1.out V.val (hP0 _ _ h1 V.below)).2.2.2.2.2.2.2.2.2; have q9 : ∀ V : Aft w1, b0 < V.val.heap.size := fun V => (HF1.out V.val (hP0 _ _ h1 V.below)).1; go_big_quiet_op; first | exact hK | fail))
              (refine wpAnyP_take1 (i := 2) hP0 hP1 hP01 hC0 (by decide) rfl (by kernel_rfl) (by kernel_rfl) (by kernel_rfl) (fun _ _ _ _ h => h) (by rfl) ?_; apply Exists.intro; refine ⟨fun w1 h1 K hK => ?_, ?_⟩; · ( go_big_quiet_op; first | exact hK | fail))
              (refine wpAnyP_take1 (i := 3) hP0 hP1 hP01 hC0 (by decide) rfl (by kernel_rfl) (by kernel_rfl) (by kernel_rfl) (fun _ _ _ _ h => h) (by rfl) ?_; apply Exists.intro; refine ⟨fun w1 h1 K hK => ?_, ?_⟩; · ( go_big_quiet_op; first | exact hK | fail))
              (refine wpAnyP_take1 (i := 4) hP0 hP1 hP01 hC0 (by decide) rfl (by kernel_rfl) (by kernel_rfl) (by kernel_rfl) (fun _ _ _ _ h => h) (by rfl) ?_; apply Exists.intro; refine ⟨fun w1 h1 K hK => ?_, ?_⟩; · ( go_big_quiet_op; first | exact hK | fail))
              (refine wpAnyP_take1 (i := 14) hP0 hP1 hP01 hC0 (by decide) rfl (by kernel_rfl) (by kernel_rfl) (by kernel_rfl) (fun _ _ _ _ h => h) (by rfl) ?_; apply Exists.intro; refine ⟨fun w1 h1 K hK => ?_, ?_⟩; · ( go_big_quiet_op; first | exact hK | fail))
              (refine wpAnyP_one (i := 15) (by kernel_rfl) rfl (by rfl) (fun wa hwa K hK => ?_))
              have hA1 := hP0 _ _ hC0 hwa
              have hsz := HSZ.out
              have hi9 := HIN.out
              refine wp_store_at (HBX.out.below hA1) rfl rfl rfl (by simp; omega) (by kernel_rfl) (by simp [Value.oneCell']) (fun wb zs ho => ?_)
              dsimp only [Act.put]
              refine hK _ _ zs.lt ?_
              clear hK K
              have hLb := (HL.out.trans (hA1.mono HL.out.size)).trans (ho.below HG5.out)
              have hC1 := zs.lt
              clear hC0
              have hC0 := hC1
              clear hC1
              (refine wpAnyP_one (i := 16) (by kernel_rfl) rfl (by rfl) (fun wc hwc K hK => ?_))
              go_simp
              refine hK _ _ (Nat.lt_of_lt_of_le zs.lt hwc.size) ?_
              clear hK K
              replace zs := zs.below hwc
              replace hLb := hLb.trans (hwc.mono hLb.size)
              (refine wpAnyP_one (i := 17) (by kernel_rfl) rfl (by rfl) (fun wd hwd K hK => ?_))
              have hLd := hLb.trans (hwd.mono hLb.size)
              refine wp_store_at (zs.below hwd) rfl rfl rfl (by rw [setA_size]; simp; omega) (by kernel_rfl) (by simp [Value.oneCell']) (fun we zt ho2 => ?_)
              dsimp only [Act.put]
              refine hK _ _ zt.lt ?_
              clear hK K
              refine wpAnyP_done (by kernel_rfl) (fun wz hwz => ?_) _
              have hLe := hLd.trans (ho2.below HG5.out)
              have HL2 := Lib.hid (hLe.trans (hwz.mono hLe.size))
              have HBX2 := Lib.hid (zt.below hwz)
              clear hP0 hP1 hP01 hC0 hwa hA1 zs ho hLb hwz hwc hwd zt ho2 hLd hLe hsz hi9 HBX HL HF1 HF2 HSZ
              obtain ⟨cv1, hcv⟩ : ∃ c, c = setA (setA cv0 (i * 9) #[.int .i64 d0, .int .i64 d1, .int .i64 d2, .int .i64 d3, .int .i64 d4, .int .i64 d5, .int .i64 d6, .int .i64 d7, .int .i64 d8].toList) (j * 9) #[.int .i64 a0, .int .i64 a1, .int .i64 a2, .int .i64 a3, .int .i64 a4, .int .i64 a5, .int .i64 a6, .int .i64 a7, .int .i64 a8].toList := ⟨_, rfl⟩
              have HBX := Lib.hid (show Box g5 cv1 48 wz by rw [hcv]; exact HBX2.out)
              replace HR3 := Lib.hid (show ZRow n (swZ z i (j + 1)) cv1 by rw [hcv]; exact HR3.out)
              have HL := HL2
              clear hcv HBX2 HL2 cv0
              go_wp2_with fail
              go_loopw [16] (fun v16 wr => ∃ (m : Nat) (cv : Array Value), j + 1 ≤ m ∧ m ≤ n ∧ v16 = .int .i64 m ∧ Hid (ZRow n (swZ z i m) cv) ∧ Hid (Box g5 cv 48 wr) ∧ Hid (Below W.heap.size W wr)) (fun v16 _ => n - (intOf v16).toNat)
              case atStart => exact ⟨j + 1, cv1, Nat.le_refl _, by omega, by have := HJ.out; simp; omega, HR3, HBX, HL⟩
              case round =>
                clear HL HBX HR3
                obtain ⟨m, cv, hm0, hm, rfl, HR, HBX, HL⟩ := hrel
                have HM2 := Lib.hid (show i + 2 ≤ m by have := HJ.out; omega)
                by_cases hmlt : m < n
                · have hk0 : (0 : Int) ≤ (m : Int) := by omega
                  have hk1 : (m : Int) < (n : Int) := by omega
                  obtain ⟨b9, o9, e9, hl9, -, -, -, -, -, -, -, -, c8⟩ := HA.out _ HL.out m hmlt
                  cases e9
                  have HSTP := Lib.hid (swZ_step (z := z) HM2.out)
                  have HAT := Lib.hid (swZ_at (z := z) HM2.out)
                  have HMN := Lib.hid hmlt
                  have hcell := HBX.out.cell (m * 9 + 8) ((HR.out.2 m hmlt 8 (by omega)).trans (by rw [HAT.out]; rfl))
                  have hfz := HBX.out.frozen (m * 9 + 8)
                  have hlt5 := HBX.out.lt
                  have hsz := HR.out.1
                  have hix : ∀ W : World, (Instr.indexAt 22 (.slice (some ⟨g5, 0, none⟩) n c5) (.int .i64 (m : Nat))).run Try.prog W = .ok (.pointer (some ⟨g5, m * 9, none⟩)) W := fun W => ix22 hmlt W
                  have HREN := Lib.hid (show (z m).ren i = ⟨(z m).i, (z m).m, (z m).e, (z m).l, swP i (z m).p⟩ from rfl)
                  have HRS := Lib.hid (fun a b => ren_same (x := z m) (i := i) a b)
                  obtain ⟨Zm, hZm⟩ : ∃ Zm, Zm = z m := ⟨_, rfl⟩
                  rw [← hZm] at c8 HSTP HAT hcell HREN HRS
                  clear hZm
                  obtain ⟨⟨f0, f1⟩, ⟨f2, f3⟩, ⟨f4, f5⟩, ⟨f6, f7⟩, f8⟩ := Zm
                  simp only at c8 hcell HREN HRS
                  by_cases hp1 : f8 = (i : Int)
                  · as_aux_lemma =>
                    have hpb : (f8 == (i : Int)) = true := by simpa using hp1
                    have HNR := Lib.hid (show ZRow n (swZ z i (m + 1)) (cv.setIfInBounds (m * 9 + 8) (.int .i64 (j : Nat))) by
                      rw [HSTP.out, HREN.out]
                      refine ZRow.set1 HR.out HMN.out (by omega) ?_
                      rw [HAT.out]
                      have e9 : swP i f8 = (j : Int) := by unfold swP; rw [if_pos hp1]; have := HJ.out; omega
                      rw [e9]
                      exact cells_if rfl rfl rfl rfl rfl rfl rfl rfl rfl)
                    have hpj : (f8 == (j : Int)) = false := by simp; have := HJ.out; omega
                    clear hp1 HSTP HREN HAT HRS
                    go_upto_region 33 with fail
                    have ho := (Only.refl g5 wr).setCell (m * 9 + 8) (.int .i64 (j : Nat))
                    have HL2 := Lib.hid (HL.out.trans (ho.below HG5.out))
                    have HBX2 := Lib.hid (HBX.out.set (m * 9 + 8) (.int .i64 (j : Nat)))
                    clear hcell hfz hlt5
                    obtain ⟨b9, o9, e9, hl9, -, -, -, -, -, -, -, -, c8⟩ := HA.out _ HL2.out m HMN.out
                    cases e9
                    go_wp2_with fail
                    go_roundw
                    case rel => exact ⟨m + 1, _, by omega, by omega, by go_num, HNR, HBX2, HL2⟩
                    case measure => simp [intOf]; omega
                  · have hpb : (f8 == (i : Int)) = false := by simpa using hp1
                    by_cases hp2 : f8 = (j : Int)
                    · as_aux_lemma =>
                      have hpj : (f8 == (j : Int)) = true := by simpa using hp2
                      have HNR := Lib.hid (show ZRow n (swZ z i (m + 1)) (cv.setIfInBounds (m * 9 + 8) (.int .i64 (i : Nat))) by
                        rw [HSTP.out, HREN.out]
                        refine ZRow.set1 HR.out HMN.out (by omega) ?_
                        rw [HAT.out]
                        have e9 : swP i f8 = (i : Int) := by unfold swP; rw [if_neg hp1, if_pos (by have := HJ.out; omega)]
                        rw [e9]
                        exact cells_if rfl rfl rfl rfl rfl rfl rfl rfl rfl)
                      have ho := (Only.refl g5 wr).setCell (m * 9 + 8) (.int .i64 (i : Nat))
                      have HL2 := Lib.hid (HL.out.trans (ho.below HG5.out))
                      have HBX2 := Lib.hid (HBX.out.set (m * 9 + 8) (.int .i64 (i : Nat)))
                      clear hp1 hp2 HSTP HREN HAT HRS ho
                      go_wp2_with fail
                      go_roundw
                      case rel => exact ⟨m + 1, _, by omega, by omega, by go_num, HNR, HBX2, HL2⟩
                      case measure => simp [intOf]; omega
                    · as_aux_lemma =>
                      have hpj : (f8 == (j : Int)) = false := by simpa using hp2
                      have HNR := Lib.hid (show ZRow n (swZ z i (m + 1)) cv by
                        rw [HSTP.out, HRS.out hp1 (by have := HJ.out; omega), ← HAT.out, updZ_id]
                        exact HR.out)
                      clear hp1 hp2 HSTP HREN HAT HRS hcell hfz hlt5
                      go_wp2_with fail
                      go_roundw
                      case rel => exact ⟨m + 1, cv, by omega, by omega, by go_num, HNR, HBX, HL⟩
                      case measure => simp [intOf]; omega
                · have hmn : n = m := by omega
                  subst hmn
                  as_aux_lemma =>
                    have HL6 := Lib.hid (losses_any (some ⟨g5, 0, none⟩) n c5 (swZ z i n) wr (by omega) (HR.out.at_ HBX.out))
                    clear HR HBX
                    have HSA := Lib.hid (HSY.out.1.all HTR.out HSY.out.2)
                    have HSD := Lib.hid (HSY.out.1.dn HTR.out HSY.out.2)
                    have HII := Lib.hid HSY.out.1.hi
                    obtain ⟨y9, hy9⟩ : ∃ f, f = swZ z i n := ⟨_, rfl⟩
                    rw [← hy9] at HL6 HSA HSB2
                    simp only [← hy9] at HSD
                    clear hy9 HSY
                    go_wp2_with fail
                    refine HL6.out.mono ?_
                    intro e w16 hp
                    obtain ⟨hb, oE, cE, rfl, hse, -⟩ := loss_all hp HSB2.out (HSA.out.2 HALL.out)
                    obtain ⟨bE, oE9, hoE, -⟩ := hse 0 (by omega)
                    subst hoE
                    have HSE := Lib.hid hse
                    have hnn : ((n : Int) != (n : Int)) = false := by simp
                    replace HL := Lib.hid (HL.out.trans (hb.mono HL.out.size))
                    clear hp hb hse HL6 HSA
                    have HBF := Lib.hid (show ∀ k, k < n → ∀ V, Below w16.heap.size w16 V → bB < V.heap.size ∧ V.cell? ⟨bB, oB9 + k * 2, none⟩ = some (.int .i64 (dnF z n k).lo) ∧ V.cell? ⟨bB, oB9 + k * 2 + 1, none⟩ = some (.int .i64 (dnF z n k).hi) from fun k hk V hV => by
                      obtain ⟨b9, o9, e9, h1, h2, h3⟩ := (HSBW.out V (HL.out.trans (hV.mono HL.out.size))) k hk
                      cases e9
                      exact ⟨h1, h2, h3⟩)
                    have HEF := Lib.hid (show ∀ k, k < n → ∀ V, Below w16.heap.size w16 V → bE < V.heap.size ∧ V.cell? ⟨bE, oE9 + k * 2, none⟩ = some (.int .i64 (dnF y9 n k).lo) ∧ V.cell? ⟨bE, oE9 + k * 2 + 1, none⟩ = some (.int .i64 (dnF y9 n k).hi) from fun k hk V hV => by
                      obtain ⟨b9, o9, e9, h1, h2, h3⟩ := (HSE.out.mono hV) k hk
                      cases e9
                      exact ⟨h1, h2, h3⟩)
                    have HEQ := Lib.hid (show ∀ k, k < n → dnF y9 n k = dnF z n (sw i k) from fun k hk => by
                      have := HSD.out (sw i k) (sw_lt HII.out hk)
                      rw [sw_sw] at this
                      exact this)
                    clear HSE HSD
                    go_wp2_with fail
                    go_loopw [19] (fun v19 wr => ∃ k : Nat, k ≤ n ∧ v19 = .int .i64 k ∧ Hid (Below w16.heap.size w16 wr)) (fun v19 _ => n - (intOf v19).toNat)
                    case atStart => exact ⟨0, Nat.zero_le _, rfl, Lib.hid (Below.refl _ _)⟩
                    case round =>
                      obtain ⟨k, hk, rfl, HL7⟩ := hrel
                      by_cases hlt : k < n
                      · have hk0 : (0 : Int) ≤ (k : Int) := by omega
                        have hk1 : (k : Int) < (n : Int) := by omega
                        have HSK := Lib.hid (sw_lt HII.out hlt)
                        have HB1 := Lib.hid (fun V hV => HBF.out (sw i k) HSK.out V hV)
                        have HE1 := Lib.hid (fun V hV => HEF.out k hlt V hV)
                        rw [HEQ.out k hlt] at HE1
                        have HCMP := Lib.hid (fun V : World => neq41 (dnF z n (sw i k)) (dnF z n (sw i k)) V)
                        obtain ⟨D, hD⟩ : ∃ D, D = dnF z n (sw i k) := ⟨_, rfl⟩
                        rw [← hD] at HB1 HE1
                        simp only [← hD] at HCMP
                        clear hD
                        obtain ⟨dlo, dhi⟩ := D
                        simp only at HB1 HE1 HCMP
                        have hcm : ∀ V : World, (binOp .neq 41 (.agg #[.int .i64 dlo, .int .i64 dhi]) (.agg #[.int .i64 dlo, .int .i64 dhi])).run Try.prog V = .ok (.bool false) V := fun V => (HCMP.out V).trans (by simp)
                        clear HCMP
                        by_cases hki : k = i
                        · as_aux_lemma =>
                          subst hki
                          have hs : sw k k = j := by rw [HJ.out]; exact if_pos rfl
                          rw [hs] at HB1
                          have hkb : ((k : Int) == (k : Int)) = true := by simp
                          have hkj : ((k : Int) == (j : Int)) = false := by simp; have := HJ.out; omega
                          go_upto_region 46 with fail
                          have q0 : ∀ V : Aft wr, V.val.cell? ⟨bB, oB9 + j * 2, none⟩ = some (.int .i64 dlo) := fun V => (HB1.out V.val (HL7.out.trans (V.below.mono HL7.out.size))).2.1
                          have q1 : ∀ V : Aft wr, V.val.cell? ⟨bB, oB9 + j * 2 + 1, none⟩ = some (.int .i64 dhi) := fun V => (HB1.out V.val (HL7.out.trans (V.below.mono HL7.out.size))).2.2
                          have q2 : ∀ V : Aft wr, bB < V.val.heap.size := fun V => (HB1.out V.val (HL7.out.trans (V.below.mono HL7.out.size))).1
                          have q3 : ∀ V : Aft wr, V.val.cell? ⟨bE, oE9 + k * 2, none⟩ = some (.int .i64 dlo) := fun V => (HE1.out V.val (HL7.out.trans (V.below.mono HL7.out.size))).2.1
                          have q4 : ∀ V : Aft wr, V.val.cell? ⟨bE, oE9 + k * 2 + 1, none⟩ = some (.int .i64 dhi) := fun V => (HE1.out V.val (HL7.out.trans (V.below.mono HL7.out.size))).2.2
                          have q5 : ∀ V : Aft wr, bE < V.val.heap.size := fun V => (HE1.out V.val (HL7.out.trans (V.below.mono HL7.out.size))).1
                          refine wp_region_aft (by kernel_rfl) (by kernel_rfl) ?_
                          repeat (go_big_quiet_step (fail))
                          refine wpQuiet_nil ?_
                          intro WA
                          obtain ⟨wy, hwy⟩ : ∃ X, X = WA.val := ⟨_, rfl⟩
                          have hby := WA.below
                          rw [← hwy] at hby ⊢
                          clear hwy WA
                          replace HL7 := Lib.hid (HL7.out.trans (hby.mono HL7.out.size))
                          clear q0 q1 q2 q3 q4 q5 hby hcm
                          go_wp2_with fail
                          go_roundw
                          case rel => exact ⟨k + 1, by omega, by go_num, HL7⟩
                          case measure => simp [intOf]; omega
                        · have hkb : ((k : Int) == (i : Int)) = false := by simp; omega
                          by_cases hkj : k = j
                          · as_aux_lemma =>
                            subst hkj
                            have hs : sw i k = i := by unfold sw; rw [if_neg hki, if_pos HJ.out]
                            rw [hs] at HB1
                            have hkk : ((k : Int) == (k : Int)) = true := by simp
                            go_upto_region 46 with fail
                            have q0 : ∀ V : Aft wr, V.val.cell? ⟨bB, oB9 + i * 2, none⟩ = some (.int .i64 dlo) := fun V => (HB1.out V.val (HL7.out.trans (V.below.mono HL7.out.size))).2.1
                            have q1 : ∀ V : Aft wr, V.val.cell? ⟨bB, oB9 + i * 2 + 1, none⟩ = some (.int .i64 dhi) := fun V => (HB1.out V.val (HL7.out.trans (V.below.mono HL7.out.size))).2.2
                            have q2 : ∀ V : Aft wr, bB < V.val.heap.size := fun V => (HB1.out V.val (HL7.out.trans (V.below.mono HL7.out.size))).1
                            have q3 : ∀ V : Aft wr, V.val.cell? ⟨bE, oE9 + k * 2, none⟩ = some (.int .i64 dlo) := fun V => (HE1.out V.val (HL7.out.trans (V.below.mono HL7.out.size))).2.1
                            have q4 : ∀ V : Aft wr, V.val.cell? ⟨bE, oE9 + k * 2 + 1, none⟩ = some (.int .i64 dhi) := fun V => (HE1.out V.val (HL7.out.trans (V.below.mono HL7.out.size))).2.2
                            have q5 : ∀ V : Aft wr, bE < V.val.heap.size := fun V => (HE1.out V.val (HL7.out.trans (V.below.mono HL7.out.size))).1
                            refine wp_region_aft (by kernel_rfl) (by kernel_rfl) ?_
                            repeat (go_big_quiet_step (fail))
                            refine wpQuiet_nil ?_
                            intro WA
                            obtain ⟨wy, hwy⟩ : ∃ X, X = WA.val := ⟨_, rfl⟩
                            have hby := WA.below
                            rw [← hwy] at hby ⊢
                            clear hwy WA
                            replace HL7 := Lib.hid (HL7.out.trans (hby.mono HL7.out.size))
                            clear q0 q1 q2 q3 q4 q5 hby hcm
                            go_wp2_with fail
                            go_roundw
                            case rel => exact ⟨k + 1, by omega, by go_num, HL7⟩
                            case measure => simp [intOf]; omega
                          · as_aux_lemma =>
                            have hs : sw i k = k := by unfold sw; rw [if_neg hki, if_neg (by have := HJ.out; omega)]
                            rw [hs] at HB1
                            have hkk : ((k : Int) == (j : Int)) = false := by simp; omega
                            go_upto_region 46 with fail
                            have q0 : ∀ V : Aft wr, V.val.cell? ⟨bB, oB9 + k * 2, none⟩ = some (.int .i64 dlo) := fun V => (HB1.out V.val (HL7.out.trans (V.below.mono HL7.out.size))).2.1
                            have q1 : ∀ V : Aft wr, V.val.cell? ⟨bB, oB9 + k * 2 + 1, none⟩ = some (.int .i64 dhi) := fun V => (HB1.out V.val (HL7.out.trans (V.below.mono HL7.out.size))).2.2
                            have q2 : ∀ V : Aft wr, bB < V.val.heap.size := fun V => (HB1.out V.val (HL7.out.trans (V.below.mono HL7.out.size))).1
                            have q3 : ∀ V : Aft wr, V.val.cell? ⟨bE, oE9 + k * 2, none⟩ = some (.int .i64 dlo) := fun V => (HE1.out V.val (HL7.out.trans (V.below.mono HL7.out.size))).2.1
                            have q4 : ∀ V : Aft wr, V.val.cell? ⟨bE, oE9 + k * 2 + 1, none⟩ = some (.int .i64 dhi) := fun V => (HE1.out V.val (HL7.out.trans (V.below.mono HL7.out.size))).2.2
                            have q5 : ∀ V : Aft wr, bE < V.val.heap.size := fun V => (HE1.out V.val (HL7.out.trans (V.below.mono HL7.out.size))).1
                            refine wp_region_aft (by kernel_rfl) (by kernel_rfl) ?_
                            repeat (go_big_quiet_step (fail))
                            refine wpQuiet_nil ?_
                            intro WA
                            obtain ⟨wy, hwy⟩ : ∃ X, X = WA.val := ⟨_, rfl⟩
                            have hby := WA.below
                            rw [← hwy] at hby ⊢
                            clear hwy WA
                            replace HL7 := Lib.hid (HL7.out.trans (hby.mono HL7.out.size))
                            clear q0 q1 q2 q3 q4 q5 hby hcm
                            go_wp2_with fail
                            go_roundw
                            case rel => exact ⟨k + 1, by omega, by go_num, HL7⟩
                            case measure => simp [intOf]; omega
                      · have hkn : n = k := by omega
                        subst hkn
                        replace HL := Lib.hid (HL.out.trans (HL7.out.mono HL.out.size))
                        go_wp2_with fail
                        refine (awake_any _).mono ?_
                        rintro e wz ⟨rfl, hb⟩
                        replace HL := Lib.hid (HL.out.trans (hb.mono HL.out.size))
                        go_wp2_with fail
                        go_ret
                        exact ⟨rfl, HB.out.trans (HL.out.mono HB.out.size)⟩
          · have j2 : decide ((n : Int) ≤ (i : Int) + 1) = true := decide_eq_true (by omega)
            go_wp2_with fail
            refine (awake_any _).mono ?_
            rintro e wz ⟨rfl, hb⟩
            replace HL := Lib.hid (HL.out.trans (hb.mono HL.out.size))
            go_wp2_with fail
            go_ret
            exact ⟨rfl, HB.out.trans (HL.out.mono HB.out.size)⟩
    · obtain ⟨rfl, hb⟩ := loss_none hp HLB.out hall
      have HALL := Lib.hid hall
      replace HL := Lib.hid (HL.out.trans (hb.mono HL.out.size))
      clear hp hb HLS hall
      go_wp2_with fail
      refine (HZS.out _ HL.out).mono ?_
      rintro e W ⟨rfl, hb⟩
      rw [HLB.out]
      replace HL := Lib.hid (HL.out.trans (hb.mono HL.out.size))
      clear hb HZS
      as_aux_lemma =>
        have HB := HL
        replace HA := Lib.hid (fun (V : World) (hV : Below W.heap.size W V) => HA.out V (HB.out.trans (hV.mono HB.out.size)))
        replace HL := Lib.hid (Below.refl W.heap.size W)
        have hi9 : x % n < n := Nat.mod_lt _ (by omega)
        obtain ⟨i, hi⟩ : ∃ i, i = x % n := ⟨_, rfl⟩
        have t1 : (x : Int).tmod (n : Int) = (i : Int) := by
          rw [Int.tmod_eq_emod_of_nonneg (by omega), hi]
          exact (Int.natCast_emod x n).symm
        rw [← hi] at hi9
        clear hi
        have HIN := Lib.hid hi9
        have x1 : ((n : Int) == 0) = false := by simp; omega
        have x2 : (n : Int) ≠ 0 := by omega
        have k0 : (0 : Int) ≤ (i : Int) := by omega
        have k1 : (i : Int) < (n : Int) := by omega
        obtain ⟨iR, hiR, hzR0, hzR1, hzR2⟩ := info_parts (P := Try.prog) (e := 48) (z := .agg #[.int .i64 0, .int .i64 0, .int .i64 0, .int .i64 0, .int .i64 0, .int .i64 0, .int .i64 0, .int .i64 0, .int .i64 0]) (size := 9) (bytes := 72) (by kernel_rfl)
        have HIR := Lib.hid hiR
        have HZR := Lib.hid (And.intro hzR0 (And.intro hzR1 hzR2))
        clear hiR hzR0 hzR1 hzR2
        go_wp2_with (at_builtin; refine wpList_append_gen rfl (.tmp 52) (.tmp 53) _ rfl W.heap.size 48 iR _ 9 72 Try.underlying22 HIR.out HZR.out.1 HZR.out.2.1 HZR.out.2.2 rfl (by omega) (.slice (some ⟨W.heap.size, 0, none⟩) 0 0) 0 [] rfl (some ⟨b0, off0, none⟩) n ca (zonNews n z) rfl (owns_empty (Nat.le_refl _) (heap_new rfl)) (fun e9 => by cases e9) (zonNews_length n z) (fun ad9 e9 j9 u9 hu9 => (zons_news (HA.out _ (HL.out.alloc HL.out.size _))) ad9 e9 j9 u9 hu9) zons_one (by simp only [maxLen]; omega) (by omega) (by simp) ?_; intro vS wS hownS hgrowS)
        rw [Nat.zero_add, List.nil_append] at hownS
        obtain ⟨g, cR, cur9, rfl, hgb, hbx, hzr⟩ := owns_zrow hownS (by omega)
        have HLW := HL
        have hb : Below W.heap.size W wS := below_grown (below_alloc1 W (.cells #[] 48)) (owns_empty (e := 48) (size := 9) (Nat.le_refl _) (heap_new rfl)) hgrowS
        replace HL := Lib.hid (HL.out.trans (hb.mono HL.out.size))
        have HG := Lib.hid (show W.heap.size ≤ g from hgb)
        have HBX := Lib.hid hbx
        have HR := Lib.hid (show ZRow n (updZ z i (z i)) cur9 by rw [updZ_id]; exact hzr)
        have HOKI := Lib.hid (HOK.out i HIN.out)
        have HNB := Lib.hid (nar_list (b := y) HLB.out HIN.out)
        have HND := Lib.hid (fun h => nar_dn (i := i) (b := y) HTR.out HOK.out h)
        have HNZ := Lib.hid (show (z i).nar y = ⟨⟨min (z i).i.hi ((z i).i.lo + ((y % 11 : Nat) : Int)), (z i).i.hi⟩, ⟨(z i).m.lo, max (z i).m.lo ((z i).m.hi - ((y % 7 : Nat) : Int))⟩, ⟨min (z i).e.hi ((z i).e.lo + ((y % 3 : Nat) : Int)), (z i).e.hi⟩, ⟨(z i).l.lo, max (z i).l.lo ((z i).l.hi - ((y % 5 : Nat) : Int))⟩, (z i).p⟩ from rfl)
        clear hownS hgrowS hbx hzr hgb hb HLW
        obtain ⟨Zn, hZn⟩ : ∃ Zn, Zn = (z i).nar y := ⟨_, rfl⟩
        rw [← hZn] at HNB HND HNZ
        clear hZn
        obtain ⟨r11, hr11⟩ : ∃ r : Int, r = ((y % 11 : Nat) : Int) := ⟨_, rfl⟩
        obtain ⟨r7, hr7⟩ : ∃ r : Int, r = ((y % 7 : Nat) : Int) := ⟨_, rfl⟩
        obtain ⟨r5, hr5⟩ : ∃ r : Int, r = ((y % 5 : Nat) : Int) := ⟨_, rfl⟩
        obtain ⟨r3, hr3⟩ : ∃ r : Int, r = ((y % 3 : Nat) : Int) := ⟨_, rfl⟩
        have hrb : 0 ≤ r11 ∧ r11 ≤ 255 ∧ 0 ≤ r7 ∧ r7 ≤ 255 ∧ 0 ≤ r5 ∧ r5 ≤ 255 ∧ 0 ≤ r3 ∧ r3 ≤ 255 := by omega
        have T11 := Lib.hid (show (y : Int).tmod 11 = r11 by rw [Int.tmod_eq_emod_of_nonneg (by omega), hr11]; omega)
        have T7 := Lib.hid (show (y : Int).tmod 7 = r7 by rw [Int.tmod_eq_emod_of_nonneg (by omega), hr7]; omega)
        have T5 := Lib.hid (show (y : Int).tmod 5 = r5 by rw [Int.tmod_eq_emod_of_nonneg (by omega), hr5]; omega)
        have T3 := Lib.hid (show (y : Int).tmod 3 = r3 by rw [Int.tmod_eq_emod_of_nonneg (by omega), hr3]; omega)
        rw [← hr11, ← hr7, ← hr5, ← hr3] at HNZ
        clear hr11 hr7 hr5 hr3
        obtain ⟨Zi, hZi⟩ : ∃ Zi, Zi = z i := ⟨_, rfl⟩
        rw [← hZi] at HR HOKI HNZ
        clear hZi
        obtain ⟨⟨ilo, ihi⟩, ⟨mlo, mhi⟩, ⟨elo, ehi⟩, ⟨llo, lhi⟩, p⟩ := Zi
        simp only at HNZ
        obtain ⟨⟨i1, i2, i3⟩, ⟨m1, m2, m3⟩, ⟨e1, e2, e3⟩, ⟨l1, l2, l3⟩⟩ := HOKI.out
        simp only at i1 i2 i3 m1 m2 m3 e1 e2 e3 l1 l2 l3
        clear HOKI
        obtain ⟨v1, hv1⟩ : ∃ v, v = min ihi (ilo + r11) := ⟨_, rfl⟩
        obtain ⟨v2, hv2⟩ : ∃ v, v = max mlo (mhi - r7) := ⟨_, rfl⟩
        obtain ⟨v3, hv3⟩ : ∃ v, v = max llo (lhi - r5) := ⟨_, rfl⟩
        obtain ⟨v4, hv4⟩ : ∃ v, v = min ehi (elo + r3) := ⟨_, rfl⟩
        rw [← hv1, ← hv2, ← hv3, ← hv4] at HNZ
        have V1 := Lib.hid hv1
        have V2 := Lib.hid hv2
        have V3 := Lib.hid hv3
        have V4 := Lib.hid hv4
        clear hv1 hv2 hv3 hv4
        obtain ⟨W9, hW⟩ : ∃ X, X = wS := ⟨_, rfl⟩
        rw [← hW] at HL HBX ⊢
        clear hW wS
        have hix : ∀ W : World, (Instr.indexAt 22 (.slice (some ⟨g, 0, none⟩) n cR) (.int .i64 (i : Nat))).run Try.prog W = .ok (.pointer (some ⟨g, i * 9, none⟩)) W := fun W => ix22 HIN.out W
        go_upto_region 9 with fail
        go_simp
        go_upto_region 9 with fail
        clear hix
        have hP0 : ∀ A B : World, Below W9.heap.size W9 A → Below A.heap.size A B → Below W9.heap.size W9 B := fun A B h1 h2 => h1.trans (h2.mono h1.size)
        have hP1 : ∀ A B : World, g < A.heap.size → Below A.heap.size A B → g < B.heap.size := fun _ _ h1 h2 => Nat.lt_of_lt_of_le h1 h2.size
        have hP01 : ∀ A : World, Below W9.heap.size W9 A → g < A.heap.size := fun _ h1 => Nat.lt_of_lt_of_le HBX.out.lt h1.size
        have hC0 : Below W9.heap.size W9 W9.drew := (Below.refl _ _).drew
        have tm := T11.out
        have hmx : (if ilo + r11 < ihi then ilo + r11 else ihi) = v1 := by rw [V1.out]; split <;> omega
        refine wp_region_phase 19 (fun A => Below W9.heap.size W9 A) (fun A => g < A.heap.size) (by kernel_rfl) ?_
        (refine wpAnyP_take0 (i := 0) hP0 hP1 hC0 (by decide) (by rfl) rfl (by kernel_rfl) rfl (by kernel_rfl) (by kernel_rfl) (by kernel_rfl) (fun _ _ _ _ h => h) (by rfl) ?_; apply Exists.intro; refine ⟨fun w1 h1 K hK => ?_, ?_⟩; · ( go_big_quiet_op; first | exact hK | fail))
        (refine wpAnyP_take0 (i := 1) hP0 hP1 hC0 (by decide) (by rfl) rfl (by kernel_rfl) rfl (by kernel_rfl) (by kernel_rfl) (by kernel_rfl) (fun _ _ _ _ h => h) (by rfl) ?_; apply Exists.intro; refine ⟨fun w1 h1 K hK => ?_, ?_⟩; · ( go_big_quiet_op; first | exact hK | fail))
        (refine wpAnyP_take0 (i := 2) hP0 hP1 hC0 (by decide) (by rfl) rfl (by kernel_rfl) rfl (by kernel_rfl) (by kernel_rfl) (by kernel_rfl) (fun _ _ _ _ h => h) (by rfl) ?_; apply Exists.intro; refine ⟨fun w1 h1 K hK => ?_, ?_⟩; · (have q9 : ∀ V : Aft w1, g < V.val.heap.size := fun V => (HBX.out.below (hP0 _ _ h1 V.below)).lt; go_big_quiet_op; first | exact hK | fail))
        (refine wpAnyP_take0 (i := 3) hP0 hP1 hC0 (by decide) (by rfl) rfl (by kernel_rfl) rfl (by kernel_rfl) (by kernel_rfl) (by kernel_rfl) (fun _ _ _ _ h => h) (by rfl) ?_; apply Exists.intro; refine ⟨fun w1 h1 K hK => ?_, ?_⟩; · (have q9 : ∀ V : Aft w1, g < V.val.heap.size := fun V => (HBX.out.below (hP0 _ _ h1 V.below)).lt; go_big_quiet_op; first | exact hK | fail))
        (refine wpAnyP_take0 (i := 4) hP0 hP1 hC0 (by decide) (by rfl) rfl (by kernel_rfl) rfl (by kernel_rfl) (by kernel_rfl) (by kernel_rfl) (fun _ _ _ _ h => h) (by rfl) ?_; apply Exists.intro; refine ⟨fun w1 h1 K hK => ?_, ?_⟩; · (have q9 : ∀ V : Aft w1, g < V.val.heap.size := fun V => (HBX.out.below (hP0 _ _ h1 V.below)).lt; go_big_quiet_op; first | exact hK | fail))
        (refine wpAnyP_take0 (i := 5) hP0 hP1 hC0 (by decide) (by rfl) rfl (by kernel_rfl) rfl (by kernel_rfl) (by kernel_rfl) (by kernel_rfl) (fun _ _ _ _ h => h) (by rfl) ?_; apply Exists.intro; refine ⟨fun w1 h1 K hK => ?_, ?_⟩; · (have q1 : ∀ V : Aft w1, V.val.cell? ⟨g, i * 9 + 1, none⟩ = some (.int .i64 ihi) := fun V => (HBX.out.below (hP0 _ _ h1 V.below)).cell (i * 9 + 1) ((HR.out.2 i HIN.out 1 (by omega)).trans (by rw [updZ_self]; rfl));have q9 : ∀ V : Aft w1, g < V.val.heap.size := fun V => (HBX.out.below (hP0 _ _ h1 V.below)).lt; go_big_quiet_op; first | exact hK | fail))
        (refine wpAnyP_take0 (i := 6) hP0 hP1 hC0 (by decide) (by rfl) rfl (by kernel_rfl) rfl (by kernel_rfl) (by kernel_rfl) (by kernel_rfl) (fun _ _ _ _ h => h) (by rfl) ?_; apply Exists.intro; refine ⟨fun w1 h1 K hK => ?_, ?_⟩; · ( go_big_quiet_op; first | exact hK | fail))
        (refine wpAnyP_take0 (i := 7) hP0 hP1 hC0 (by decide) (by rfl) rfl (by kernel_rfl) rfl (by kernel_rfl) (by kernel_rfl) (by kernel_rfl) (fun _ _ _ _ h => h) (by rfl) ?_; apply Exists.intro; refine ⟨fun w1 h1 K hK => ?_, ?_⟩; · (have q9 : ∀ V : Aft w1, g < V.val.heap.size := fun V => (HBX.out.below (hP0 _ _ h1 V.below)).lt; go_big_quiet_op; first | exact hK | fail))
        (refine wpAnyP_take0 (i := 8) hP0 hP1 hC0 (by decide) (by rfl) rfl (by kernel_rfl) rfl (by kernel_rfl) (by kernel_rfl) (by kernel_rfl) (fun _ _ _ _ h => h) (by rfl) ?_; apply Exists.intro; refine ⟨fun w1 h1 K hK => ?_, ?_⟩; · (have q9 : ∀ V : Aft w1, g < V.val.heap.size := fun V => (HBX.out.below (hP0 _ _ h1 V.below)).lt; go_big_quiet_op; first | exact hK | fail))
        (refine wpAnyP_take0 (i := 9) hP0 hP1 hC0 (by decide) (by rfl) rfl (by kernel_rfl) rfl (by kernel_rfl) (by kernel_rfl) (by kernel_rfl) (fun _ _ _ _ h => h) (by rfl) ?_; apply Exists.intro; refine ⟨fun w1 h1 K hK => ?_, ?_⟩; · (have q9 : ∀ V : Aft w1, g < V.val.heap.size := fun V => (HBX.out.below (hP0 _ _ h1 V.below)).lt; go_big_quiet_op; first | exact hK | fail))
        (refine wpAnyP_take0 (i := 10) hP0 hP1 hC0 (by decide) (by rfl) rfl (by kernel_rfl) rfl (by kernel_rfl) (by kernel_rfl) (by kernel_rfl) (fun _ _ _ _ h => h) (by rfl) ?_; apply Exists.intro; refine ⟨fun w1 h1 K hK => ?_, ?_⟩; · (have q0 : ∀ V : Aft w1, V.val.cell? ⟨g, i * 9, none⟩ = some (.int .i64 ilo) := fun V => (HBX.out.below (hP0 _ _ h1 V.below)).cell (i * 9) ((HR.out.2 i HIN.out 0 (by omega)).trans (by rw [updZ_self]; rfl));have q9 : ∀ V : Aft w1, g < V.val.heap.size := fun V => (HBX.out.below (hP0 _ _ h1 V.below)).lt; go_big_quiet_op; first | exact hK | fail))
        (refine wpAnyP_take0 (i := 11) hP0 hP1 hC0 (by decide) (by rfl) rfl (by kernel_rfl) rfl (by kernel_rfl) (by kernel_rfl) (by kernel_rfl) (fun _ _ _ _ h => h) (by rfl) ?_; apply Exists.intro; refine ⟨fun w1 h1 K hK => ?_, ?_⟩; · ( go_big_quiet_op; first | exact hK | fail))
        (refine wpAnyP_take0 (i := 12) hP0 hP1 hC0 (by decide) (by rfl) rfl (by kernel_rfl) rfl (by kernel_rfl) (by kernel_rfl) (by kernel_rfl) (fun _ _ _ _ h => h) (by rfl) ?_; apply Exists.intro; refine ⟨fun w1 h1 K hK => ?_, ?_⟩; · ( go_big_quiet_op; first | exact hK | fail))
        (refine wpAnyP_take0 (i := 13) hP0 hP1 hC0 (by decide) (by rfl) rfl (by kernel_rfl) rfl (by kernel_rfl) (by kernel_rfl) (by kernel_rfl) (fun _ _ _ _ h => h) (by rfl) ?_; apply Exists.intro; refine ⟨fun w1 h1 K hK => ?_, ?_⟩; · ( go_big_quiet_op; first | exact hK | fail))
        (refine wpAnyP_take0 (i := 14) hP0 hP1 hC0 (by decide) (by rfl) rfl (by kernel_rfl) rfl (by kernel_rfl) (by kernel_rfl) (by kernel_rfl) (fun _ _ _ _ h => h) (by rfl) ?_; apply Exists.intro; refine ⟨fun w1 h1 K hK => ?_, ?_⟩; · ( go_big_quiet_op; first | exact hK | fail))
        (refine wpAnyP_take0 (i := 15) hP0 hP1 hC0 (by decide) (by rfl) rfl (by kernel_rfl) rfl (by kernel_rfl) (by kernel_rfl) (by kernel_rfl) (fun _ _ _ _ h => h) (by rfl) ?_; apply Exists.intro; refine ⟨fun w1 h1 K hK => ?_, ?_⟩; · ( go_big_quiet_op; first | exact hK | fail))
        (refine wpAnyP_take1 (i := 16) hP0 hP1 hP01 hC0 (by decide) rfl (by kernel_rfl) (by kernel_rfl) (by kernel_rfl) (fun _ _ _ _ h => h) (by rfl) ?_; apply Exists.intro; refine ⟨fun w1 h1 K hK => ?_, ?_⟩; · (have q9 : ∀ V : Aft w1, g < V.val.heap.size := fun V => hP1 _ _ h1 V.below; go_big_quiet_op; first | exact hK | fail))
        (refine wpAnyP_take1 (i := 17) hP0 hP1 hP01 hC0 (by decide) rfl (by kernel_rfl) (by kernel_rfl) (by kernel_rfl) (fun _ _ _ _ h => h) (by rfl) ?_; apply Exists.intro; refine ⟨fun w1 h1 K hK => ?_, ?_⟩; · (have q9 : ∀ V : Aft w1, g < V.val.heap.size := fun V => hP1 _ _ h1 V.below; go_big_quiet_op; first | exact hK | fail))
        (refine wpAnyP_take1 (i := 18) hP0 hP1 hP01 hC0 (by decide) rfl (by kernel_rfl) (by kernel_rfl) (by kernel_rfl) (fun _ _ _ _ h => h) (by rfl) ?_; apply Exists.intro; refine ⟨fun w1 h1 K hK => ?_, ?_⟩; · (have q9 : ∀ V : Aft w1, g < V.val.heap.size := fun V => hP1 _ _ h1 V.below; go_big_quiet_op; first | exact hK | fail))
        (refine wpAnyP_one (i := 19) (by kernel_rfl) rfl (by rfl) (fun wa hwa K hK => ?_))
        have hA1 := hP0 _ _ hC0 hwa
        have hsz := HR.out.1
        have hi9 := HIN.out
        refine wp_store_int (HBX.out.below hA1) rfl rfl rfl (by omega) (by kernel_rfl) (fun wb zs ho => ?_)
        dsimp only [Act.put]
        refine hK _ _ zs.lt ?_
        clear hK K
        refine wpAnyP_done (by kernel_rfl) (fun wz hwz => ?_) _
        have hLb := (HL.out.trans (hA1.mono HL.out.size)).trans (ho.below HG.out)
        have HL2 := Lib.hid (hLb.trans (hwz.mono hLb.size))
        have HBX2 := Lib.hid (zs.below hwz)
        have HR2 := Lib.hid (ZRow.fld (v := .int .i64 v1) (x := ⟨⟨v1, ihi⟩, ⟨mlo, mhi⟩, ⟨elo, ehi⟩, ⟨llo, lhi⟩, p⟩) HR.out hi9 (show 0 < 9 by omega) (cells_if rfl rfl rfl rfl rfl rfl rfl rfl rfl))
        clear hP0 hP1 hP01 hC0 hwa hA1 zs ho hLb hwz hsz hi9 tm hmx HBX HR HL
        obtain ⟨W10, hW⟩ : ∃ X, X = wz := ⟨_, rfl⟩
        rw [← hW] at HL2 HBX2 ⊢
        have HL := HL2
        have HBX := HBX2
        have HR := HR2
        clear hW HL2 HBX2 HR2 wz
        obtain ⟨cur10, hcc⟩ : ∃ c, c = cur9.setIfInBounds (i * 9 + 0) (.int .i64 v1) := ⟨_, rfl⟩
        rw [← hcc] at HR
        replace HBX := Lib.hid (show Box g cur10 48 W10 by rw [hcc]; exact HBX.out)
        clear hcc
        have hix : ∀ W : World, (Instr.indexAt 22 (.slice (some ⟨g, 0, none⟩) n cR) (.int .i64 (i : Nat))).run Try.prog W = .ok (.pointer (some ⟨g, i * 9, none⟩)) W := fun W => ix22 HIN.out W
        go_upto_region 10 with fail
        skip
        skip
        clear hix
        have hP0 : ∀ A B : World, Below W10.heap.size W10 A → Below A.heap.size A B → Below W10.heap.size W10 B := fun A B h1 h2 => h1.trans (h2.mono h1.size)
        have hP1 : ∀ A B : World, g < A.heap.size → Below A.heap.size A B → g < B.heap.size := fun _ _ h1 h2 => Nat.lt_of_lt_of_le h1 h2.size
        have hP01 : ∀ A : World, Below W10.heap.size W10 A → g < A.heap.size := fun _ h1 => Nat.lt_of_lt_of_le HBX.out.lt h1.size
        have hC0 : Below W10.heap.size W10 W10.drew := (Below.refl _ _).drew
        have tm := T7.out
        have hmx : (if mlo < mhi - r7 then mhi - r7 else mlo) = v2 := by rw [V2.out]; split <;> omega
        refine wp_region_phase 19 (fun A => Below W10.heap.size W10 A) (fun A => g < A.heap.size) (by kernel_rfl) ?_
        (refine wpAnyP_take0 (i := 0) hP0 hP1 hC0 (by decide) (by rfl) rfl (by kernel_rfl) rfl (by kernel_rfl) (by kernel_rfl) (by kernel_rfl) (fun _ _ _ _ h => h) (by rfl) ?_; apply Exists.intro; refine ⟨fun w1 h1 K hK => ?_, ?_⟩; · ( go_big_quiet_op; first | exact hK | fail))
        (refine wpAnyP_take0 (i := 1) hP0 hP1 hC0 (by decide) (by rfl) rfl (by kernel_rfl) rfl (by kernel_rfl) (by kernel_rfl) (by kernel_rfl) (fun _ _ _ _ h => h) (by rfl) ?_; apply Exists.intro; refine ⟨fun w1 h1 K hK => ?_, ?_⟩; · ( go_big_quiet_op; first | exact hK | fail))
        (refine wpAnyP_take0 (i := 2) hP0 hP1 hC0 (by decide) (by rfl) rfl (by kernel_rfl) rfl (by kernel_rfl) (by kernel_rfl) (by kernel_rfl) (fun _ _ _ _ h => h) (by rfl) ?_; apply Exists.intro; refine ⟨fun w1 h1 K hK => ?_, ?_⟩; · (have q9 : ∀ V : Aft w1, g < V.val.heap.size := fun V => (HBX.out.below (hP0 _ _ h1 V.below)).lt; go_big_quiet_op; first | exact hK | fail))
        (refine wpAnyP_take0 (i := 3) hP0 hP1 hC0 (by decide) (by rfl) rfl (by kernel_rfl) rfl (by kernel_rfl) (by kernel_rfl) (by kernel_rfl) (fun _ _ _ _ h => h) (by rfl) ?_; apply Exists.intro; refine ⟨fun w1 h1 K hK => ?_, ?_⟩; · (have q9 : ∀ V : Aft w1, g < V.val.heap.size := fun V => (HBX.out.below (hP0 _ _ h1 V.below)).lt; go_big_quiet_op; first | exact hK | fail))
        (refine wpAnyP_take0 (i := 4) hP0 hP1 hC0 (by decide) (by rfl) rfl (by kernel_rfl) rfl (by kernel_rfl) (by kernel_rfl) (by kernel_rfl) (fun _ _ _ _ h => h) (by rfl) ?_; apply Exists.intro; refine ⟨fun w1 h1 K hK => ?_, ?_⟩; · (have q9 : ∀ V : Aft w1, g < V.val.heap.size := fun V => (HBX.out.below (hP0 _ _ h1 V.below)).lt; go_big_quiet_op; first | exact hK | fail))
        (refine wpAnyP_take0 (i := 5) hP0 hP1 hC0 (by decide) (by rfl) rfl (by kernel_rfl) rfl (by kernel_rfl) (by kernel_rfl) (by kernel_rfl) (fun _ _ _ _ h => h) (by rfl) ?_; apply Exists.intro; refine ⟨fun w1 h1 K hK => ?_, ?_⟩; · (have q2 : ∀ V : Aft w1, V.val.cell? ⟨g, i * 9 + 2, none⟩ = some (.int .i64 mlo) := fun V => (HBX.out.below (hP0 _ _ h1 V.below)).cell (i * 9 + 2) ((HR.out.2 i HIN.out 2 (by omega)).trans (by rw [updZ_self]; rfl));have q9 : ∀ V : Aft w1, g < V.val.heap.size := fun V => (HBX.out.below (hP0 _ _ h1 V.below)).lt; go_big_quiet_op; first | exact hK | fail))
        (refine wpAnyP_take0 (i := 6) hP0 hP1 hC0 (by decide) (by rfl) rfl (by kernel_rfl) rfl (by kernel_rfl) (by kernel_rfl) (by kernel_rfl) (fun _ _ _ _ h => h) (by rfl) ?_; apply Exists.intro; refine ⟨fun w1 h1 K hK => ?_, ?_⟩; · ( go_big_quiet_op; first | exact hK | fail))
        (refine wpAnyP_take0 (i := 7) hP0 hP1 hC0 (by decide) (by rfl) rfl (by kernel_rfl) rfl (by kernel_rfl) (by kernel_rfl) (by kernel_rfl) (fun _ _ _ _ h => h) (by rfl) ?_; apply Exists.intro; refine ⟨fun w1 h1 K hK => ?_, ?_⟩; · (have q9 : ∀ V : Aft w1, g < V.val.heap.size := fun V => (HBX.out.below (hP0 _ _ h1 V.below)).lt; go_big_quiet_op; first | exact hK | fail))
        (refine wpAnyP_take0 (i := 8) hP0 hP1 hC0 (by decide) (by rfl) rfl (by kernel_rfl) rfl (by kernel_rfl) (by kernel_rfl) (by kernel_rfl) (fun _ _ _ _ h => h) (by rfl) ?_; apply Exists.intro; refine ⟨fun w1 h1 K hK => ?_, ?_⟩; · (have q9 : ∀ V : Aft w1, g < V.val.heap.size := fun V => (HBX.out.below (hP0 _ _ h1 V.below)).lt; go_big_quiet_op; first | exact hK | fail))
        (refine wpAnyP_take0 (i := 9) hP0 hP1 hC0 (by decide) (by rfl) rfl (by kernel_rfl) rfl (by kernel_rfl) (by kernel_rfl) (by kernel_rfl) (fun _ _ _ _ h => h) (by rfl) ?_; apply Exists.intro; refine ⟨fun w1 h1 K hK => ?_, ?_⟩; · (have q9 : ∀ V : Aft w1, g < V.val.heap.size := fun V => (HBX.out.below (hP0 _ _ h1 V.below)).lt; go_big_quiet_op; first | exact hK | fail))
        (refine wpAnyP_take0 (i := 10) hP0 hP1 hC0 (by decide) (by rfl) rfl (by kernel_rfl) rfl (by kernel_rfl) (by kernel_rfl) (by kernel_rfl) (fun _ _ _ _ h => h) (by rfl) ?_; apply Exists.intro; refine ⟨fun w1 h1 K hK => ?_, ?_⟩; · (have q3 : ∀ V : Aft w1, V.val.cell? ⟨g, i * 9 + 3, none⟩ = some (.int .i64 mhi) := fun V => (HBX.out.below (hP0 _ _ h1 V.below)).cell (i * 9 + 3) ((HR.out.2 i HIN.out 3 (by omega)).trans (by rw [updZ_self]; rfl));have q9 : ∀ V : Aft w1, g < V.val.heap.size := fun V => (HBX.out.below (hP0 _ _ h1 V.below)).lt; go_big_quiet_op; first | exact hK | fail))
        (refine wpAnyP_take0 (i := 11) hP0 hP1 hC0 (by decide) (by rfl) rfl (by kernel_rfl) rfl (by kernel_rfl) (by kernel_rfl) (by kernel_rfl) (fun _ _ _ _ h => h) (by rfl) ?_; apply Exists.intro; refine ⟨fun w1 h1 K hK => ?_, ?_⟩; · ( go_big_quiet_op; first | exact hK | fail))
        (refine wpAnyP_take0 (i := 12) hP0 hP1 hC0 (by decide) (by rfl) rfl (by kernel_rfl) rfl (by kernel_rfl) (by kernel_rfl) (by kernel_rfl) (fun _ _ _ _ h => h) (by rfl) ?_; apply Exists.intro; refine ⟨fun w1 h1 K hK => ?_, ?_⟩; · ( go_big_quiet_op; first | exact hK | fail))
        (refine wpAnyP_take0 (i := 13) hP0 hP1 hC0 (by decide) (by rfl) rfl (by kernel_rfl) rfl (by kernel_rfl) (by kernel_rfl) (by kernel_rfl) (fun _ _ _ _ h => h) (by rfl) ?_; apply Exists.intro; refine ⟨fun w1 h1 K hK => ?_, ?_⟩; · ( go_big_quiet_op; first | exact hK | fail))
        (refine wpAnyP_take0 (i := 14) hP0 hP1 hC0 (by decide) (by rfl) rfl (by kernel_rfl) rfl (by kernel_rfl) (by kernel_rfl) (by kernel_rfl) (fun _ _ _ _ h => h) (by rfl) ?_; apply Exists.intro; refine ⟨fun w1 h1 K hK => ?_, ?_⟩; · ( go_big_quiet_op; first | exact hK | fail))
        (refine wpAnyP_take0 (i := 15) hP0 hP1 hC0 (by decide) (by rfl) rfl (by kernel_rfl) rfl (by kernel_rfl) (by kernel_rfl) (by kernel_rfl) (fun _ _ _ _ h => h) (by rfl) ?_; apply Exists.intro; refine ⟨fun w1 h1 K hK => ?_, ?_⟩; · ( go_big_quiet_op; first | exact hK | fail))
        (refine wpAnyP_take1 (i := 16) hP0 hP1 hP01 hC0 (by decide) rfl (by kernel_rfl) (by kernel_rfl) (by kernel_rfl) (fun _ _ _ _ h => h) (by rfl) ?_; apply Exists.intro; refine ⟨fun w1 h1 K hK => ?_, ?_⟩; · (have q9 : ∀ V : Aft w1, g < V.val.heap.size := fun V => hP1 _ _ h1 V.below; go_big_quiet_op; first | exact hK | fail))
        (refine wpAnyP_take1 (i := 17) hP0 hP1 hP01 hC0 (by decide) rfl (by kernel_rfl) (by kernel_rfl) (by kernel_rfl) (fun _ _ _ _ h => h) (by rfl) ?_; apply Exists.intro; refine ⟨fun w1 h1 K hK => ?_, ?_⟩; · (have q9 : ∀ V : Aft w1, g < V.val.heap.size := fun V => hP1 _ _ h1 V.below; go_big_quiet_op; first | exact hK | fail))
        (refine wpAnyP_take1 (i := 18) hP0 hP1 hP01 hC0 (by decide) rfl (by kernel_rfl) (by kernel_rfl) (by kernel_rfl) (fun _ _ _ _ h => h) (by rfl) ?_; apply Exists.intro; refine ⟨fun w1 h1 K hK => ?_, ?_⟩; · (have q9 : ∀ V : Aft w1, g < V.val.heap.size := fun V => hP1 _ _ h1 V.below; go_big_quiet_op; first | exact hK | fail))
        (refine wpAnyP_one (i := 19) (by kernel_rfl) rfl (by rfl) (fun wa hwa K hK => ?_))
        have hA1 := hP0 _ _ hC0 hwa
        have hsz := HR.out.1
        have hi9 := HIN.out
        refine wp_store_int (HBX.out.below hA1) rfl rfl rfl (by omega) (by kernel_rfl) (fun wb zs ho => ?_)
        dsimp only [Act.put]
        refine hK _ _ zs.lt ?_
        clear hK K
        refine wpAnyP_done (by kernel_rfl) (fun wz hwz => ?_) _
        have hLb := (HL.out.trans (hA1.mono HL.out.size)).trans (ho.below HG.out)
        have HL2 := Lib.hid (hLb.trans (hwz.mono hLb.size))
        have HBX2 := Lib.hid (zs.below hwz)
        have HR2 := Lib.hid (ZRow.fld (v := .int .i64 v2) (x := ⟨⟨v1, ihi⟩, ⟨mlo, v2⟩, ⟨elo, ehi⟩, ⟨llo, lhi⟩, p⟩) HR.out hi9 (show 3 < 9 by omega) (cells_if rfl rfl rfl rfl rfl rfl rfl rfl rfl))
        clear hP0 hP1 hP01 hC0 hwa hA1 zs ho hLb hwz hsz hi9 tm hmx HBX HR HL
        obtain ⟨W11, hW⟩ : ∃ X, X = wz := ⟨_, rfl⟩
        rw [← hW] at HL2 HBX2 ⊢
        have HL := HL2
        have HBX := HBX2
        have HR := HR2
        clear hW HL2 HBX2 HR2 wz
        obtain ⟨cur11, hcc⟩ : ∃ c, c = cur10.setIfInBounds (i * 9 + 3) (.int .i64 v2) := ⟨_, rfl⟩
        rw [← hcc] at HR
        replace HBX := Lib.hid (show Box g cur11 48 W11 by rw [hcc]; exact HBX.out)
        clear hcc
        have hix : ∀ W : World, (Instr.indexAt 22 (.slice (some ⟨g, 0, none⟩) n cR) (.int .i64 (i : Nat))).run Try.prog W = .ok (.pointer (some ⟨g, i * 9, none⟩)) W := fun W => ix22 HIN.out W
        go_upto_region 11 with fail
        skip
        skip
        clear hix
        have hP0 : ∀ A B : World, Below W11.heap.size W11 A → Below A.heap.size A B → Below W11.heap.size W11 B := fun A B h1 h2 => h1.trans (h2.mono h1.size)
        have hP1 : ∀ A B : World, g < A.heap.size → Below A.heap.size A B → g < B.heap.size := fun _ _ h1 h2 => Nat.lt_of_lt_of_le h1 h2.size
        have hP01 : ∀ A : World, Below W11.heap.size W11 A → g < A.heap.size := fun _ h1 => Nat.lt_of_lt_of_le HBX.out.lt h1.size
        have hC0 : Below W11.heap.size W11 W11.drew := (Below.refl _ _).drew
        have tm := T5.out
        have hmx : (if llo < lhi - r5 then lhi - r5 else llo) = v3 := by rw [V3.out]; split <;> omega
        refine wp_region_phase 19 (fun A => Below W11.heap.size W11 A) (fun A => g < A.heap.size) (by kernel_rfl) ?_
        (refine wpAnyP_take0 (i := 0) hP0 hP1 hC0 (by decide) (by rfl) rfl (by kernel_rfl) rfl (by kernel_rfl) (by kernel_rfl) (by kernel_rfl) (fun _ _ _ _ h => h) (by rfl) ?_; apply Exists.intro; refine ⟨fun w1 h1 K hK => ?_, ?_⟩; · ( go_big_quiet_op; first | exact hK | fail))
        (refine wpAnyP_take0 (i := 1) hP0 hP1 hC0 (by decide) (by rfl) rfl (by kernel_rfl) rfl (by kernel_rfl) (by kernel_rfl) (by kernel_rfl) (fun _ _ _ _ h => h) (by rfl) ?_; apply Exists.intro; refine ⟨fun w1 h1 K hK => ?_, ?_⟩; · ( go_big_quiet_op; first | exact hK | fail))
        (refine wpAnyP_take0 (i := 2) hP0 hP1 hC0 (by decide) (by rfl) rfl (by kernel_rfl) rfl (by kernel_rfl) (by kernel_rfl) (by kernel_rfl) (fun _ _ _ _ h => h) (by rfl) ?_; apply Exists.intro; refine ⟨fun w1 h1 K hK => ?_, ?_⟩; · (have q9 : ∀ V : Aft w1, g < V.val.heap.size := fun V => (HBX.out.below (hP0 _ _ h1 V.below)).lt; go_big_quiet_op; first | exact hK | fail))
        (refine wpAnyP_take0 (i := 3) hP0 hP1 hC0 (by decide) (by rfl) rfl (by kernel_rfl) rfl (by kernel_rfl) (by kernel_rfl) (by kernel_rfl) (fun _ _ _ _ h => h) (by rfl) ?_; apply Exists.intro; refine ⟨fun w1 h1 K hK => ?_, ?_⟩; · (have q9 : ∀ V : Aft w1, g < V.val.heap.size := fun V => (HBX.out.below (hP0 _ _ h1 V.below)).lt; go_big_quiet_op; first | exact hK | fail))
        (refine wpAnyP_take0 (i := 4) hP0 hP1 hC0 (by decide) (by rfl) rfl (by kernel_rfl) rfl (by kernel_rfl) (by kernel_rfl) (by kernel_rfl) (fun _ _ _ _ h => h) (by rfl) ?_; apply Exists.intro; refine ⟨fun w1 h1 K hK => ?_, ?_⟩; · (have q9 : ∀ V : Aft w1, g < V.val.heap.size := fun V => (HBX.out.below (hP0 _ _ h1 V.below)).lt; go_big_quiet_op; first | exact hK | fail))
        (refine wpAnyP_take0 (i := 5) hP0 hP1 hC0 (by decide) (by rfl) rfl (by kernel_rfl) rfl (by kernel_rfl) (by kernel_rfl) (by kernel_rfl) (fun _ _ _ _ h => h) (by rfl) ?_; apply Exists.intro; refine ⟨fun w1 h1 K hK => ?_, ?_⟩; · (have q6 : ∀ V : Aft w1, V.val.cell? ⟨g, i * 9 + 6, none⟩ = some (.int .i64 llo) := fun V => (HBX.out.below (hP0 _ _ h1 V.below)).cell (i * 9 + 6) ((HR.out.2 i HIN.out 6 (by omega)).trans (by rw [updZ_self]; rfl));have q9 : ∀ V : Aft w1, g < V.val.heap.size := fun V => (HBX.out.below (hP0 _ _ h1 V.below)).lt; go_big_quiet_op; first | exact hK | fail))
        (refine wpAnyP_take0 (i := 6) hP0 hP1 hC0 (by decide) (by rfl) rfl (by kernel_rfl) rfl (by kernel_rfl) (by kernel_rfl) (by kernel_rfl) (fun _ _ _ _ h => h) (by rfl) ?_; apply Exists.intro; refine ⟨fun w1 h1 K hK => ?_, ?_⟩; · ( go_big_quiet_op; first | exact hK | fail))
        (refine wpAnyP_take0 (i := 7) hP0 hP1 hC0 (by decide) (by rfl) rfl (by kernel_rfl) rfl (by kernel_rfl) (by kernel_rfl) (by kernel_rfl) (fun _ _ _ _ h => h) (by rfl) ?_; apply Exists.intro; refine ⟨fun w1 h1 K hK => ?_, ?_⟩; · (have q9 : ∀ V : Aft w1, g < V.val.heap.size := fun V => (HBX.out.below (hP0 _ _ h1 V.below)).lt; go_big_quiet_op; first | exact hK | fail))
        (refine wpAnyP_take0 (i := 8) hP0 hP1 hC0 (by decide) (by rfl) rfl (by kernel_rfl) rfl (by kernel_rfl) (by kernel_rfl) (by kernel_rfl) (fun _ _ _ _ h => h) (by rfl) ?_; apply Exists.intro; refine ⟨fun w1 h1 K hK => ?_, ?_⟩; · (have q9 : ∀ V : Aft w1, g < V.val.heap.size := fun V => (HBX.out.below (hP0 _ _ h1 V.below)).lt; go_big_quiet_op; first | exact hK | fail))
        (refine wpAnyP_take0 (i := 9) hP0 hP1 hC0 (by decide) (by rfl) rfl (by kernel_rfl) rfl (by kernel_rfl) (by kernel_rfl) (by kernel_rfl) (fun _ _ _ _ h => h) (by rfl) ?_; apply Exists.intro; refine ⟨fun w1 h1 K hK => ?_, ?_⟩; · (have q9 : ∀ V : Aft w1, g < V.val.heap.size := fun V => (HBX.out.below (hP0 _ _ h1 V.below)).lt; go_big_quiet_op; first | exact hK | fail))
        (refine wpAnyP_take0 (i := 10) hP0 hP1 hC0 (by decide) (by rfl) rfl (by kernel_rfl) rfl (by kernel_rfl) (by kernel_rfl) (by kernel_rfl) (fun _ _ _ _ h => h) (by rfl) ?_; apply Exists.intro; refine ⟨fun w1 h1 K hK => ?_, ?_⟩; · (have q7 : ∀ V : Aft w1, V.val.cell? ⟨g, i * 9 + 7, none⟩ = some (.int .i64 lhi) := fun V => (HBX.out.below (hP0 _ _ h1 V.below)).cell (i * 9 + 7) ((HR.out.2 i HIN.out 7 (by omega)).trans (by rw [updZ_self]; rfl));have q9 : ∀ V : Aft w1, g < V.val.heap.size := fun V => (HBX.out.below (hP0 _ _ h1 V.below)).lt; go_big_quiet_op; first | exact hK | fail))
        (refine wpAnyP_take0 (i := 11) hP0 hP1 hC0 (by decide) (by rfl) rfl (by kernel_rfl) rfl (by kernel_rfl) (by kernel_rfl) (by kernel_rfl) (fun _ _ _ _ h => h) (by rfl) ?_; apply Exists.intro; refine ⟨fun w1 h1 K hK => ?_, ?_⟩; · ( go_big_quiet_op; first | exact hK | fail))
        (refine wpAnyP_take0 (i := 12) hP0 hP1 hC0 (by decide) (by rfl) rfl (by kernel_rfl) rfl (by kernel_rfl) (by kernel_rfl) (by kernel_rfl) (fun _ _ _ _ h => h) (by rfl) ?_; apply Exists.intro; refine ⟨fun w1 h1 K hK => ?_, ?_⟩; · ( go_big_quiet_op; first | exact hK | fail))
        (refine wpAnyP_take0 (i := 13) hP0 hP1 hC0 (by decide) (by rfl) rfl (by kernel_rfl) rfl (by kernel_rfl) (by kernel_rfl) (by kernel_rfl) (fun _ _ _ _ h => h) (by rfl) ?_; apply Exists.intro; refine ⟨fun w1 h1 K hK => ?_, ?_⟩; · ( go_big_quiet_op; first | exact hK | fail))
        (refine wpAnyP_take0 (i := 14) hP0 hP1 hC0 (by decide) (by rfl) rfl (by kernel_rfl) rfl (by kernel_rfl) (by kernel_rfl) (by kernel_rfl) (fun _ _ _ _ h => h) (by rfl) ?_; apply Exists.intro; refine ⟨fun w1 h1 K hK => ?_, ?_⟩; · ( go_big_quiet_op; first | exact hK | fail))
        (refine wpAnyP_take0 (i := 15) hP0 hP1 hC0 (by decide) (by rfl) rfl (by kernel_rfl) rfl (by kernel_rfl) (by kernel_rfl) (by kernel_rfl) (fun _ _ _ _ h => h) (by rfl) ?_; apply Exists.intro; refine ⟨fun w1 h1 K hK => ?_, ?_⟩; · ( go_big_quiet_op; first | exact hK | fail))
        (refine wpAnyP_take1 (i := 16) hP0 hP1 hP01 hC0 (by decide) rfl (by kernel_rfl) (by kernel_rfl) (by kernel_rfl) (fun _ _ _ _ h => h) (by rfl) ?_; apply Exists.intro; refine ⟨fun w1 h1 K hK => ?_, ?_⟩; · (have q9 : ∀ V : Aft w1, g < V.val.heap.size := fun V => hP1 _ _ h1 V.below; go_big_quiet_op; first | exact hK | fail))
        (refine wpAnyP_take1 (i := 17) hP0 hP1 hP01 hC0 (by decide) rfl (by kernel_rfl) (by kernel_rfl) (by kernel_rfl) (fun _ _ _ _ h => h) (by rfl) ?_; apply Exists.intro; refine ⟨fun w1 h1 K hK => ?_, ?_⟩; · (have q9 : ∀ V : Aft w1, g < V.val.heap.size := fun V => hP1 _ _ h1 V.below; go_big_quiet_op; first | exact hK | fail))
        (refine wpAnyP_take1 (i := 18) hP0 hP1 hP01 hC0 (by decide) rfl (by kernel_rfl) (by kernel_rfl) (by kernel_rfl) (fun _ _ _ _ h => h) (by rfl) ?_; apply Exists.intro; refine ⟨fun w1 h1 K hK => ?_, ?_⟩; · (have q9 : ∀ V : Aft w1, g < V.val.heap.size := fun V => hP1 _ _ h1 V.below; go_big_quiet_op; first | exact hK | fail))
        (refine wpAnyP_one (i := 19) (by kernel_rfl) rfl (by rfl) (fun wa hwa K hK => ?_))
        have hA1 := hP0 _ _ hC0 hwa
        have hsz := HR.out.1
        have hi9 := HIN.out
        refine wp_store_int (HBX.out.below hA1) rfl rfl rfl (by omega) (by kernel_rfl) (fun wb zs ho => ?_)
        dsimp only [Act.put]
        refine hK _ _ zs.lt ?_
        clear hK K
        refine wpAnyP_done (by kernel_rfl) (fun wz hwz => ?_) _
        have hLb := (HL.out.trans (hA1.mono HL.out.size)).trans (ho.below HG.out)
        have HL2 := Lib.hid (hLb.trans (hwz.mono hLb.size))
        have HBX2 := Lib.hid (zs.below hwz)
        have HR2 := Lib.hid (ZRow.fld (v := .int .i64 v3) (x := ⟨⟨v1, ihi⟩, ⟨mlo, v2⟩, ⟨elo, ehi⟩, ⟨llo, v3⟩, p⟩) HR.out hi9 (show 7 < 9 by omega) (cells_if rfl rfl rfl rfl rfl rfl rfl rfl rfl))
        clear hP0 hP1 hP01 hC0 hwa hA1 zs ho hLb hwz hsz hi9 tm hmx HBX HR HL
        obtain ⟨W12, hW⟩ : ∃ X, X = wz := ⟨_, rfl⟩
        rw [← hW] at HL2 HBX2 ⊢
        have HL := HL2
        have HBX := HBX2
        have HR := HR2
        clear hW HL2 HBX2 HR2 wz
        obtain ⟨cur12, hcc⟩ : ∃ c, c = cur11.setIfInBounds (i * 9 + 7) (.int .i64 v3) := ⟨_, rfl⟩
        rw [← hcc] at HR
        replace HBX := Lib.hid (show Box g cur12 48 W12 by rw [hcc]; exact HBX.out)
        clear hcc
        have hix : ∀ W : World, (Instr.indexAt 22 (.slice (some ⟨g, 0, none⟩) n cR) (.int .i64 (i : Nat))).run Try.prog W = .ok (.pointer (some ⟨g, i * 9, none⟩)) W := fun W => ix22 HIN.out W
        go_upto_region 12 with fail
        skip
        skip
        clear hix
        have hP0 : ∀ A B : World, Below W12.heap.size W12 A → Below A.heap.size A B → Below W12.heap.size W12 B := fun A B h1 h2 => h1.trans (h2.mono h1.size)
        have hP1 : ∀ A B : World, g < A.heap.size → Below A.heap.size A B → g < B.heap.size := fun _ _ h1 h2 => Nat.lt_of_lt_of_le h1 h2.size
        have hP01 : ∀ A : World, Below W12.heap.size W12 A → g < A.heap.size := fun _ h1 => Nat.lt_of_lt_of_le HBX.out.lt h1.size
        have hC0 : Below W12.heap.size W12 W12.drew := (Below.refl _ _).drew
        have tm := T3.out
        have hmx : (if elo + r3 < ehi then elo + r3 else ehi) = v4 := by rw [V4.out]; split <;> omega
        refine wp_region_phase 19 (fun A => Below W12.heap.size W12 A) (fun A => g < A.heap.size) (by kernel_rfl) ?_
        (refine wpAnyP_take0 (i := 0) hP0 hP1 hC0 (by decide) (by rfl) rfl (by kernel_rfl) rfl (by kernel_rfl) (by kernel_rfl) (by kernel_rfl) (fun _ _ _ _ h => h) (by rfl) ?_; apply Exists.intro; refine ⟨fun w1 h1 K hK => ?_, ?_⟩; · ( go_big_quiet_op; first | exact hK | fail))
        (refine wpAnyP_take0 (i := 1) hP0 hP1 hC0 (by decide) (by rfl) rfl (by kernel_rfl) rfl (by kernel_rfl) (by kernel_rfl) (by kernel_rfl) (fun _ _ _ _ h => h) (by rfl) ?_; apply Exists.intro; refine ⟨fun w1 h1 K hK => ?_, ?_⟩; · ( go_big_quiet_op; first | exact hK | fail))
        (refine wpAnyP_take0 (i := 2) hP0 hP1 hC0 (by decide) (by rfl) rfl (by kernel_rfl) rfl (by kernel_rfl) (by kernel_rfl) (by kernel_rfl) (fun _ _ _ _ h => h) (by rfl) ?_; apply Exists.intro; refine ⟨fun w1 h1 K hK => ?_, ?_⟩; · (have q9 : ∀ V : Aft w1, g < V.val.heap.size := fun V => (HBX.out.below (hP0 _ _ h1 V.below)).lt; go_big_quiet_op; first | exact hK | fail))
        (refine wpAnyP_take0 (i := 3) hP0 hP1 hC0 (by decide) (by rfl) rfl (by kernel_rfl) rfl (by kernel_rfl) (by kernel_rfl) (by kernel_rfl) (fun _ _ _ _ h => h) (by rfl) ?_; apply Exists.intro; refine ⟨fun w1 h1 K hK => ?_, ?_⟩; · (have q9 : ∀ V : Aft w1, g < V.val.heap.size := fun V => (HBX.out.below (hP0 _ _ h1 V.below)).lt; go_big_quiet_op; first | exact hK | fail))
        (refine wpAnyP_take0 (i := 4) hP0 hP1 hC0 (by decide) (by rfl) rfl (by kernel_rfl) rfl (by kernel_rfl) (by kernel_rfl) (by kernel_rfl) (fun _ _ _ _ h => h) (by rfl) ?_; apply Exists.intro; refine ⟨fun w1 h1 K hK => ?_, ?_⟩; · (have q9 : ∀ V : Aft w1, g < V.val.heap.size := fun V => (HBX.out.below (hP0 _ _ h1 V.below)).lt; go_big_quiet_op; first | exact hK | fail))
        (refine wpAnyP_take0 (i := 5) hP0 hP1 hC0 (by decide) (by rfl) rfl (by kernel_rfl) rfl (by kernel_rfl) (by kernel_rfl) (by kernel_rfl) (fun _ _ _ _ h => h) (by rfl) ?_; apply Exists.intro; refine ⟨fun w1 h1 K hK => ?_, ?_⟩; · (have q5 : ∀ V : Aft w1, V.val.cell? ⟨g, i * 9 + 5, none⟩ = some (.int .i64 ehi) := fun V => (HBX.out.below (hP0 _ _ h1 V.below)).cell (i * 9 + 5) ((HR.out.2 i HIN.out 5 (by omega)).trans (by rw [updZ_self]; rfl));have q9 : ∀ V : Aft w1, g < V.val.heap.size := fun V => (HBX.out.below (hP0 _ _ h1 V.below)).lt; go_big_quiet_op; first | exact hK | fail))
        (refine wpAnyP_take0 (i := 6) hP0 hP1 hC0 (by decide) (by rfl) rfl (by kernel_rfl) rfl (by kernel_rfl) (by kernel_rfl) (by kernel_rfl) (fun _ _ _ _ h => h) (by rfl) ?_; apply Exists.intro; refine ⟨fun w1 h1 K hK => ?_, ?_⟩; · ( go_big_quiet_op; first | exact hK | fail))
        (refine wpAnyP_take0 (i := 7) hP0 hP1 hC0 (by decide) (by rfl) rfl (by kernel_rfl) rfl (by kernel_rfl) (by kernel_rfl) (by kernel_rfl) (fun _ _ _ _ h => h) (by rfl) ?_; apply Exists.intro; refine ⟨fun w1 h1 K hK => ?_, ?_⟩; · (have q9 : ∀ V : Aft w1, g < V.val.heap.size := fun V => (HBX.out.below (hP0 _ _ h1 V.below)).lt; go_big_quiet_op; first | exact hK | fail))
        (refine wpAnyP_take0 (i := 8) hP0 hP1 hC0 (by decide) (by rfl) rfl (by kernel_rfl) rfl (by kernel_rfl) (by kernel_rfl) (by kernel_rfl) (fun _ _ _ _ h => h) (by rfl) ?_; apply Exists.intro; refine ⟨fun w1 h1 K hK => ?_, ?_⟩; · (have q9 : ∀ V : Aft w1, g < V.val.heap.size := fun V => (HBX.out.below (hP0 _ _ h1 V.below)).lt; go_big_quiet_op; first | exact hK | fail))
        (refine wpAnyP_take0 (i := 9) hP0 hP1 hC0 (by decide) (by rfl) rfl (by kernel_rfl) rfl (by kernel_rfl) (by kernel_rfl) (by kernel_rfl) (fun _ _ _ _ h => h) (by rfl) ?_; apply Exists.intro; refine ⟨fun w1 h1 K hK => ?_, ?_⟩; · (have q9 : ∀ V : Aft w1, g < V.val.heap.size := fun V => (HBX.out.below (hP0 _ _ h1 V.below)).lt; go_big_quiet_op; first | exact hK | fail))
        (refine wpAnyP_take0 (i := 10) hP0 hP1 hC0 (by decide) (by rfl) rfl (by kernel_rfl) rfl (by kernel_rfl) (by kernel_rfl) (by kernel_rfl) (fun _ _ _ _ h => h) (by rfl) ?_; apply Exists.intro; refine ⟨fun w1 h1 K hK => ?_, ?_⟩; · (have q4 : ∀ V : Aft w1, V.val.cell? ⟨g, i * 9 + 4, none⟩ = some (.int .i64 elo) := fun V => (HBX.out.below (hP0 _ _ h1 V.below)).cell (i * 9 + 4) ((HR.out.2 i HIN.out 4 (by omega)).trans (by rw [updZ_self]; rfl));have q9 : ∀ V : Aft w1, g < V.val.heap.size := fun V => (HBX.out.below (hP0 _ _ h1 V.below)).lt; go_big_quiet_op; first | exact hK | fail))
        (refine wpAnyP_take0 (i := 11) hP0 hP1 hC0 (by decide) (by rfl) rfl (by kernel_rfl) rfl (by kernel_rfl) (by kernel_rfl) (by kernel_rfl) (fun _ _ _ _ h => h) (by rfl) ?_; apply Exists.intro; refine ⟨fun w1 h1 K hK => ?_, ?_⟩; · ( go_big_quiet_op; first | exact hK | fail))
        (refine wpAnyP_take0 (i := 12) hP0 hP1 hC0 (by decide) (by rfl) rfl (by kernel_rfl) rfl (by kernel_rfl) (by kernel_rfl) (by kernel_rfl) (fun _ _ _ _ h => h) (by rfl) ?_; apply Exists.intro; refine ⟨fun w1 h1 K hK => ?_, ?_⟩; · ( go_big_quiet_op; first | exact hK | fail))
        (refine wpAnyP_take0 (i := 13) hP0 hP1 hC0 (by decide) (by rfl) rfl (by kernel_rfl) rfl (by kernel_rfl) (by kernel_rfl) (by kernel_rfl) (fun _ _ _ _ h => h) (by rfl) ?_; apply Exists.intro; refine ⟨fun w1 h1 K hK => ?_, ?_⟩; · ( go_big_quiet_op; first | exact hK | fail))
        (refine wpAnyP_take0 (i := 14) hP0 hP1 hC0 (by decide) (by rfl) rfl (by kernel_rfl) rfl (by kernel_rfl) (by kernel_rfl) (by kernel_rfl) (fun _ _ _ _ h => h) (by rfl) ?_; apply Exists.intro; refine ⟨fun w1 h1 K hK => ?_, ?_⟩; · ( go_big_quiet_op; first | exact hK | fail))
        (refine wpAnyP_take0 (i := 15) hP0 hP1 hC0 (by decide) (by rfl) rfl (by kernel_rfl) rfl (by kernel_rfl) (by kernel_rfl) (by kernel_rfl) (fun _ _ _ _ h => h) (by rfl) ?_; apply Exists.intro; refine ⟨fun w1 h1 K hK => ?_, ?_⟩; · ( go_big_quiet_op; first | exact hK | fail))
        (refine wpAnyP_take1 (i := 16) hP0 hP1 hP01 hC0 (by decide) rfl (by kernel_rfl) (by kernel_rfl) (by kernel_rfl) (fun _ _ _ _ h => h) (by rfl) ?_; apply Exists.intro; refine ⟨fun w1 h1 K hK => ?_, ?_⟩; · (have q9 : ∀ V : Aft w1, g < V.val.heap.size := fun V => hP1 _ _ h1 V.below; go_big_quiet_op; first | exact hK | fail))
        (refine wpAnyP_take1 (i := 17) hP0 hP1 hP01 hC0 (by decide) rfl (by kernel_rfl) (by kernel_rfl) (by kernel_rfl) (fun _ _ _ _ h => h) (by rfl) ?_; apply Exists.intro; refine ⟨fun w1 h1 K hK => ?_, ?_⟩; · (have q9 : ∀ V : Aft w1, g < V.val.heap.size := fun V => hP1 _ _ h1 V.below; go_big_quiet_op; first | exact hK | fail))
        (refine wpAnyP_take1 (i := 18) hP0 hP1 hP01 hC0 (by decide) rfl (by kernel_rfl) (by kernel_rfl) (by kernel_rfl) (fun _ _ _ _ h => h) (by rfl) ?_; apply Exists.intro; refine ⟨fun w1 h1 K hK => ?_, ?_⟩; · (have q9 : ∀ V : Aft w1, g < V.val.heap.size := fun V => hP1 _ _ h1 V.below; go_big_quiet_op; first | exact hK | fail))
        (refine wpAnyP_one (i := 19) (by kernel_rfl) rfl (by rfl) (fun wa hwa K hK => ?_))
        have hA1 := hP0 _ _ hC0 hwa
        have hsz := HR.out.1
        have hi9 := HIN.out
        refine wp_store_int (HBX.out.below hA1) rfl rfl rfl (by omega) (by kernel_rfl) (fun wb zs ho => ?_)
        dsimp only [Act.put]
        refine hK _ _ zs.lt ?_
        clear hK K
        refine wpAnyP_done (by kernel_rfl) (fun wz hwz => ?_) _
        have hLb := (HL.out.trans (hA1.mono HL.out.size)).trans (ho.below HG.out)
        have HL2 := Lib.hid (hLb.trans (hwz.mono hLb.size))
        have HBX2 := Lib.hid (zs.below hwz)
        have HR2 := Lib.hid (ZRow.fld (v := .int .i64 v4) (x := ⟨⟨v1, ihi⟩, ⟨mlo, v2⟩, ⟨v4, ehi⟩, ⟨llo, v3⟩, p⟩) HR.out hi9 (show 4 < 9 by omega) (cells_if rfl rfl rfl rfl rfl rfl rfl rfl rfl))
        clear hP0 hP1 hP01 hC0 hwa hA1 zs ho hLb hwz hsz hi9 tm hmx HBX HR HL
        obtain ⟨W13, hW⟩ : ∃ X, X = wz := ⟨_, rfl⟩
        rw [← hW] at HL2 HBX2 ⊢
        have HL := HL2
        have HBX := HBX2
        have HR := HR2
        clear hW HL2 HBX2 HR2 wz
        obtain ⟨cur13, hcc⟩ : ∃ c, c = cur12.setIfInBounds (i * 9 + 4) (.int .i64 v4) := ⟨_, rfl⟩
        rw [← hcc] at HR
        replace HBX := Lib.hid (show Box g cur13 48 W13 by rw [hcc]; exact HBX.out)
        clear hcc
        replace HR := Lib.hid (show ZRow n (updZ z i Zn) cur13 by rw [HNZ.out]; exact HR.out)
        clear HNZ T11 T7 T5 T3 hrb V1 V2 V3 V4 i1 i2 i3 m1 m2 m3 e1 e2 e3 l1 l2 l3
        have HL4 := Lib.hid (losses_any (some ⟨g, 0, none⟩) n cR (updZ z i Zn) W13 (by omega) (HR.out.at_ HBX.out))
        obtain ⟨z4, hz4⟩ : ∃ f, f = updZ z i Zn := ⟨_, rfl⟩
        rw [← hz4] at HL4 HNB
        simp only [← hz4] at HND
        clear hz4 HR HBX
        go_wp2_with fail
        refine HL4.out.mono ?_
        intro e w14 hp
        by_cases hal4 : AllR z4 n
        · exact absurd (HND.out hal4).1 HALL.out
        · as_aux_lemma =>
          obtain ⟨rfl, hb⟩ := loss_none hp HNB.out hal4
          replace HL := Lib.hid (HL.out.trans (hb.mono HL.out.size))
          clear hp hb hal4 HND HL4 HNB
          obtain ⟨wr, hwr⟩ : ∃ X, X = w14 := ⟨_, rfl⟩
          rw [← hwr] at HL ⊢
          clear hwr w14
          by_cases hin : i + 1 < n
          · obtain ⟨j, hj⟩ : ∃ j, j = i + 1 := ⟨_, rfl⟩
            have hji : (i : Int) + 1 = (j : Int) := by omega
            have j0 : (0 : Int) ≤ (j : Int) := by omega
            have j1 : (j : Int) < (n : Int) := by omega
            have j2 : decide ((n : Int) ≤ (j : Int)) = false := decide_eq_false (by omega)
            obtain ⟨bq, oq, hoq, hlq, -, -, -, -, -, -, -, -, cq8⟩ := HA.out _ HL.out j (by omega)
            cases hoq
            have HSW := Lib.hid (fun h => swZ_swp HTR.out hin h)
            have HSL := Lib.hid (fun h => swZ_list HLB.out hin h)
            have HST := Lib.hid (swZ_start HTR.out HIN.out)
            rw [← hj] at HSW HSL HST
            obtain ⟨pp, hpp⟩ : ∃ v, v = (z j).p := ⟨_, rfl⟩
            rw [← hpp] at cq8 HSW HSL
            have HPP := Lib.hid hpp
            have HJ := Lib.hid hj
            clear hpp hj
            by_cases hpe : pp = (i : Int)
            · have hpb : (pp == (i : Int)) = true := by simpa using hpe
              go_wp2_with fail
              refine (awake_any _).mono ?_
              rintro e wz ⟨rfl, hb⟩
              replace HL := Lib.hid (HL.out.trans (hb.mono HL.out.size))
              go_wp2_with fail
              go_ret
              exact ⟨rfl, HB.out.trans (HL.out.mono HB.out.size)⟩
            · have hpb : (pp == (i : Int)) = false := by simpa using hpe
              have HSY := Lib.hid (HSW.out hpe)
              have HSB2 := Lib.hid (HSL.out hpe)
              clear HSW HSL hpe
              go_wp2_with (at_builtin; refine wpList_append_gen rfl (.tmp 205) (.tmp 206) _ rfl wr.heap.size 48 iR _ 9 72 Try.underlying22 HIR.out HZR.out.1 HZR.out.2.1 HZR.out.2.2 rfl (by omega) (.slice (some ⟨wr.heap.size, 0, none⟩) 0 0) 0 [] rfl (some ⟨b0, off0, none⟩) n ca (zonNews n z) rfl (owns_empty (Nat.le_refl _) (heap_new rfl)) (fun e9 => by cases e9) (zonNews_length n z) (fun ad9 e9 j9 u9 hu9 => (zons_news (HA.out _ (HL.out.alloc HL.out.size _))) ad9 e9 j9 u9 hu9) zons_one (by simp only [maxLen]; omega) (by omega) (by simp) ?_; intro vS wS hownS hgrowS)
              rw [Nat.zero_add, List.nil_append] at hownS
              obtain ⟨g5, c5, cv0, rfl, hgb, hbx, hzr⟩ := owns_zrow hownS (by omega)
              have hb : Below wr.heap.size wr wS := below_grown (below_alloc1 wr (.cells #[] 48)) (owns_empty (e := 48) (size := 9) (Nat.le_refl _) (heap_new rfl)) hgrowS
              have HG5 := Lib.hid (show W.heap.size ≤ g5 by have := HL.out.size; omega)
              replace HL := Lib.hid (HL.out.trans (hb.mono HL.out.size))
              have HBX := Lib.hid hbx
              have HR := Lib.hid hzr
              clear hownS hgrowS hbx hzr hgb hb cq8 hpb j2 hlq
              go_upto_region 27 with fail
              have HF1 := Lib.hid (show ∀ V, Below wS.heap.size wS V → b0 < V.heap.size ∧ (V.cell? ⟨b0, off0 + i * 9, none⟩ = some (.int .i64 (z i).i.lo) ∧ V.cell? ⟨b0, off0 + i * 9 + 1, none⟩ = some (.int .i64 (z i).i.hi) ∧ V.cell? ⟨b0, off0 + i * 9 + 1 + 1, none⟩ = some (.int .i64 (z i).m.lo) ∧ V.cell? ⟨b0, off0 + i * 9 + 1 + 1 + 1, none⟩ = some (.int .i64 (z i).m.hi) ∧ V.cell? ⟨b0, off0 + i * 9 + 1 + 1 + 1 + 1, none⟩ = some (.int .i64 (z i).e.lo) ∧ V.cell? ⟨b0, off0 + i * 9 + 1 + 1 + 1 + 1 + 1, none⟩ = some (.int .i64 (z i).e.hi) ∧ V.cell? ⟨b0, off0 + i * 9 + 1 + 1 + 1 + 1 + 1 + 1, none⟩ = some (.int .i64 (z i).l.lo) ∧ V.cell? ⟨b0, off0 + i * 9 + 1 + 1 + 1 + 1 + 1 + 1 + 1, none⟩ = some (.int .i64 (z i).l.hi) ∧ V.cell? ⟨b0, off0 + i * 9 + 1 + 1 + 1 + 1 + 1 + 1 + 1 + 1, none⟩ = some (.int .i64 (z i).p)) from fun V hV => by
                obtain ⟨b9, o9, e9, h1, h2⟩ := HA.out _ (HL.out.trans (hV.mono HL.out.size)) i HIN.out
                cases e9
                exact ⟨h1, h2⟩)
              have HF2 := Lib.hid (show ∀ V, Below wS.heap.size wS V → (V.cell? ⟨b0, off0 + j * 9, none⟩ = some (.int .i64 (z j).i.lo) ∧ V.cell? ⟨b0, off0 + j * 9 + 1, none⟩ = some (.int .i64 (z j).i.hi) ∧ V.cell? ⟨b0, off0 + j * 9 + 1 + 1, none⟩ = some (.int .i64 (z j).m.lo) ∧ V.cell? ⟨b0, off0 + j * 9 + 1 + 1 + 1, none⟩ = some (.int .i64 (z j).m.hi) ∧ V.cell? ⟨b0, off0 + j * 9 + 1 + 1 + 1 + 1, none⟩ = some (.int .i64 (z j).e.lo) ∧ V.cell? ⟨b0, off0 + j * 9 + 1 + 1 + 1 + 1 + 1, none⟩ = some (.int .i64 (z j).e.hi) ∧ V.cell? ⟨b0, off0 + j * 9 + 1 + 1 + 1 + 1 + 1 + 1, none⟩ = some (.int .i64 (z j).l.lo) ∧ V.cell? ⟨b0, off0 + j * 9 + 1 + 1 + 1 + 1 + 1 + 1 + 1, none⟩ = some (.int .i64 (z j).l.hi) ∧ V.cell? ⟨b0, off0 + j * 9 + 1 + 1 + 1 + 1 + 1 + 1 + 1 + 1, none⟩ = some (.int .i64 (z j).p)) from fun V hV => by
                obtain ⟨b9, o9, e9, h1, h2⟩ := HA.out _ (HL.out.trans (hV.mono HL.out.size)) j (by have := HJ.out; omega)
                cases e9
                exact h2)
              have HR1 := Lib.hid (HR.out.set HIN.out (z j))
              have HR3 := Lib.hid (show ZRow n (swZ z i (j + 1)) (setA (setA cv0 (i * 9) (z j).cells.toList) (j * 9) (z i).cells.toList) by
                have h9 := HR1.out.set (i := j) (by omega) (z i)
                rw [HST.out] at h9
                rw [show j + 1 = i + 2 by have := HJ.out; omega]
                exact h9)
              have HSZ := Lib.hid (show n * 9 ≤ cv0.size from HR.out.1)
              clear HR HR1 HST
              obtain ⟨Zi, hZi⟩ : ∃ Zi, Zi = z i := ⟨_, rfl⟩
              obtain ⟨Zj, hZj⟩ : ∃ Zi, Zi = z j := ⟨_, rfl⟩
              rw [← hZi] at HF1
              rw [← hZj] at HF2
              rw [← hZi, ← hZj] at HR3
              clear hZi hZj HPP
              obtain ⟨⟨a0, a1⟩, ⟨a2, a3⟩, ⟨a4, a5⟩, ⟨a6, a7⟩, a8⟩ := Zi
              obtain ⟨⟨d0, d1⟩, ⟨d2, d3⟩, ⟨d4, d5⟩, ⟨d6, d7⟩, d8⟩ := Zj
              simp only at HF1 HF2
              have hP0 : ∀ A B : World, Below wS.heap.size wS A → Below A.heap.size A B → Below wS.heap.size wS B := fun A B h1 h2 => h1.trans (h2.mono h1.size)
              have hP1 : ∀ A B : World, g5 < A.heap.size → Below A.heap.size A B → g5 < B.heap.size := fun _ _ h1 h2 => Nat.lt_of_lt_of_le h1 h2.size
              have hP01 : ∀ A : World, Below wS.heap.size wS A → g5 < A.heap.size := fun _ h1 => Nat.lt_of_lt_of_le HBX.out.lt h1.size
              have hC0 : Below wS.heap.size wS wS.drew := (Below.refl _ _).drew
              refine wp_region_phase 15 (fun A => Below wS.heap.size wS A) (fun A => g5 < A.heap.size) (by kernel_rfl) ?_
              (refine wpAnyP_take0 (i := 0) hP0 hP1 hC0 (by decide) (by rfl) rfl (by kernel_rfl) rfl (by kernel_rfl) (by kernel_rfl) (by kernel_rfl) (fun _ _ _ _ h => h) (by rfl) ?_; apply Exists.intro; refine ⟨fun w1 h1 K hK => ?_, ?_⟩; · ( go_big_quiet_op; first | exact hK | fail))
              (refine wpAnyP_take0 (i := 1) hP0 hP1 hC0 (by decide) (by rfl) rfl (by kernel_rfl) rfl (by kernel_rfl) (by kernel_rfl) (by kernel_rfl) (fun _ _ _ _ h => h) (by rfl) ?_; apply Exists.intro; refine ⟨fun w1 h1 K hK => ?_, ?_⟩; · ( go_big_quiet_op; first | exact hK | fail))
              (refine wpAnyP_take0 (i := 5) hP0 hP1 hC0 (by decide) (by rfl) rfl (by kernel_rfl) rfl (by kernel_rfl) (by kernel_rfl) (by kernel_rfl) (fun _ _ _ _ h => h) (by rfl) ?_; apply Exists.intro; refine ⟨fun w1 h1 K hK => ?_, ?_⟩; · ( go_big_quiet_op; first | exact hK | fail))
              (refine wpAnyP_take0 (i := 6) hP0 hP1 hC0 (by decide) (by rfl) rfl (by kernel_rfl) rfl (by kernel_rfl) (by kernel_rfl) (by kernel_rfl) (fun _ _ _ _ h => h) (by rfl) ?_; apply Exists.intro; refine ⟨fun w1 h1 K hK => ?_, ?_⟩; · ( go_big_quiet_op; first | exact hK | fail))
              (refine wpAnyP_take0 (i := 7) hP0 hP1 hC0 (by decide) (by rfl) rfl (by kernel_rfl) rfl (by kernel_rfl) (by kernel_rfl) (by kernel_rfl) (fun _ _ _ _ h => h) (by rfl) ?_; apply Exists.intro; refine ⟨fun w1 h1 K hK => ?_, ?_⟩; · ( go_big_quiet_op; first | exact hK | fail))
              (refine wpAnyP_take0 (i := 8) hP0 hP1 hC0 (by decide) (by rfl) rfl (by kernel_rfl) rfl (by kernel_rfl) (by kernel_rfl) (by kernel_rfl) (fun _ _ _ _ h => h) (by rfl) ?_; apply Exists.intro; refine ⟨fun w1 h1 K hK => ?_, ?_⟩; · ( go_big_quiet_op; first | exact hK | fail))
              (refine wpAnyP_take0 (i := 9) hP0 hP1 hC0 (by decide) (by rfl) rfl (by kernel_rfl) rfl (by kernel_rfl) (by kernel_rfl) (by kernel_rfl) (fun _ _ _ _ h => h) (by rfl) ?_; apply Exists.intro; refine ⟨fun w1 h1 K hK => ?_, ?_⟩; · (have q0 : ∀ V : Aft w1, V.val.cell? ⟨b0, off0 + j * 9, none⟩ = some (.int .i64 d0) := fun V => (HF2.out V.val (hP0 _ _ h1 V.below)).1; have q1 : ∀ V : Aft w1, V.val.cell? ⟨b0, off0 + j * 9 + 1, none⟩ = some (.int .i64 d1) := fun V => (HF2.out V.val (hP0 _ _ h1 V.below)).2.1; have q2 : ∀ V : Aft w1, V.val.cell? ⟨b0, off0 + j * 9 + 1 + 1, none⟩ = some (.int .i64 d2) := fun V => (HF2.out V.val (hP0 _ _ h1 V.below)).2.2.1; have q3 : ∀ V : Aft w1, V.val.cell? ⟨b0, off0 + j * 9 + 1 + 1 + 1, none⟩ = some (.int .i64 d3) := fun V => (HF2.out V.val (hP0 _ _ h1 V.below)).2.2.2.1; have q4 : ∀ V : Aft w1, V.val.cell? ⟨b0, off0 + j * 9 + 1 + 1 + 1 + 1, none⟩ = some (.int .i64 d4) := fun V => (HF2.out V.val (hP0 _ _ h1 V.below)).2.2.2.2.1; have q5 : ∀ V : Aft w1, V.val.cell? ⟨b0, off0 + j * 9 + 1 + 1 + 1 + 1 + 1, none⟩ = some (.int .i64 d5) := fun V => (HF2.out V.val (hP0 _ _ h1 V.below)).2.2.2.2.2.1; have q6 : ∀ V : Aft w1, V.val.cell? ⟨b0, off0 + j * 9 + 1 + 1 + 1 + 1 + 1 + 1, none⟩ = some (.int .i64 d6) := fun V => (HF2.out V.val (hP0 _ _ h1 V.below)).2.2.2.2.2.2.1; have q7 : ∀ V : Aft w1, V.val.cell? ⟨b0, off0 + j * 9 + 1 + 1 + 1 + 1 + 1 + 1 + 1, none⟩ = some (.int .i64 d7) := fun V => (HF2.out V.val (hP0 _ _ h1 V.below)).2.2.2.2.2.2.2.1; have q8 : ∀ V : Aft w1, V.val.cell? ⟨b0, off0 + j * 9 + 1 + 1 + 1 + 1 + 1 + 1 + 1 + 1, none⟩ = some (.int .i64 d8) := fun V => (HF2.out V.val (hP0 _ _ h1 V.below)).2.2.2.2.2.2.2.2; have q9 : ∀ V : Aft w1, b0 < V.val.heap.size := fun V => (HF1.out V.val (hP0 _ _ h1 V.below)).1; go_big_quiet_op; first | exact hK | fail))
              (refine wpAnyP_take1 (i := 10) hP0 hP1 hP01 hC0 (by decide) rfl (by kernel_rfl) (by kernel_rfl) (by kernel_rfl) (fun _ _ _ _ h => h) (by rfl) ?_; apply Exists.intro; refine ⟨fun w1 h1 K hK => ?_, ?_⟩; · ( go_big_quiet_op; first | exact hK | fail))
              (refine wpAnyP_take1 (i := 11) hP0 hP1 hP01 hC0 (by decide) rfl (by kernel_rfl) (by kernel_rfl) (by kernel_rfl) (fun _ _ _ _ h => h) (by rfl) ?_; apply Exists.intro; refine ⟨fun w1 h1 K hK => ?_, ?_⟩; · ( go_big_quiet_op; first | exact hK | fail))
              (refine wpAnyP_take1 (i := 12) hP0 hP1 hP01 hC0 (by decide) rfl (by kernel_rfl) (by kernel_rfl) (by kernel_rfl) (fun _ _ _ _ h => h) (by rfl) ?_; apply Exists.intro; refine ⟨fun w1 h1 K hK => ?_, ?_⟩; · ( go_big_quiet_op; first | exact hK | fail))
              (refine wpAnyP_take0 (i := 13) hP0 hP1 hC0 (by decide) (by rfl) rfl (by kernel_rfl) rfl (by kernel_rfl) (by kernel_rfl) (by kernel_rfl) (fun _ _ _ _ h => h) (by rfl) ?_; apply Exists.intro; refine ⟨fun w1 h1 K hK => ?_, ?_⟩; · (have q0 : ∀ V : Aft w1, V.val.cell? ⟨b0, off0 + i * 9, none⟩ = some (.int .i64 a0) := fun V => (HF1.out V.val (hP0 _ _ h1 V.below)).2.1; have q1 : ∀ V : Aft w1, V.val.cell? ⟨b0, off0 + i * 9 + 1, none⟩ = some (.int .i64 a1) := fun V => (HF1.out V.val (hP0 _ _ h1 V.below)).2.2.1; have q2 : ∀ V : Aft w1, V.val.cell? ⟨b0, off0 + i * 9 + 1 + 1, none⟩ = some (.int .i64 a2) := fun V => (HF1.out V.val (hP0 _ _ h1 V.below)).2.2.2.1; have q3 : ∀ V : Aft w1, V.val.cell? ⟨b0, off0 + i * 9 + 1 + 1 + 1, none⟩ = some (.int .i64 a3) := fun V => (HF1.out V.val (hP0 _ _ h1 V.below)).2.2.2.2.1; have q4 : ∀ V : Aft w1, V.val.cell? ⟨b0, off0 + i * 9 + 1 + 1 + 1 + 1, none⟩ = some (.int .i64 a4) := fun V => (HF1.out V.val (hP0 _ _ h1 V.below)).2.2.2.2.2.1; have q5 : ∀ V : Aft w1, V.val.cell? ⟨b0, off0 + i * 9 + 1 + 1 + 1 + 1 + 1, none⟩ = some (.int .i64 a5) := fun V => (HF1.out V.val (hP0 _ _ h1 V.below)).2.2.2.2.2.2.1; have q6 : ∀ V : Aft w1, V.val.cell? ⟨b0, off0 + i * 9 + 1 + 1 + 1 + 1 + 1 + 1, none⟩ = some (.int .i64 a6) := fun V => (HF1.out V.val (hP0 _ _ h1 V.below)).2.2.2.2.2.2.2.1; have q7 : ∀ V : Aft w1, V.val.cell? ⟨b0, off0 + i * 9 + 1 + 1 + 1 + 1 + 1 + 1 + 1, none⟩ = some (.int .i64 a7) := fun V => (HF1.out V.val (hP0 _ _ h1 V.below)).2.2.2.2.2.2.2.2.1; have q8 : ∀ V : Aft w1, V.val.cell? ⟨b0, off0 + i * 9 + 1 + 1 + 1 + 1 + 1 + 1 + 1 + 1, none⟩ = some (.int .i64 a8) := fun V => (HF1.out V.val (hP0 _ _ h1 V.below)).2.2.2.2.2.2.2.2.2; have q9 : ∀ V : Aft w1, b0 < V.val.heap.size := fun V => (HF1.out V.val (hP0 _ _ h1 V.below)).1; go_big_quiet_op; first | exact hK | fail))
              (refine wpAnyP_take1 (i := 2) hP0 hP1 hP01 hC0 (by decide) rfl (by kernel_rfl) (by kernel_rfl) (by kernel_rfl) (fun _ _ _ _ h => h) (by rfl) ?_; apply Exists.intro; refine ⟨fun w1 h1 K hK => ?_, ?_⟩; · ( go_big_quiet_op; first | exact hK | fail))
              (refine wpAnyP_take1 (i := 3) hP0 hP1 hP01 hC0 (by decide) rfl (by kernel_rfl) (by kernel_rfl) (by kernel_rfl) (fun _ _ _ _ h => h) (by rfl) ?_; apply Exists.intro; refine ⟨fun w1 h1 K hK => ?_, ?_⟩; · ( go_big_quiet_op; first | exact hK | fail))
              (refine wpAnyP_take1 (i := 4) hP0 hP1 hP01 hC0 (by decide) rfl (by kernel_rfl) (by kernel_rfl) (by kernel_rfl) (fun _ _ _ _ h => h) (by rfl) ?_; apply Exists.intro; refine ⟨fun w1 h1 K hK => ?_, ?_⟩; · ( go_big_quiet_op; first | exact hK | fail))
              (refine wpAnyP_take1 (i := 14) hP0 hP1 hP01 hC0 (by decide) rfl (by kernel_rfl) (by kernel_rfl) (by kernel_rfl) (fun _ _ _ _ h => h) (by rfl) ?_; apply Exists.intro; refine ⟨fun w1 h1 K hK => ?_, ?_⟩; · ( go_big_quiet_op; first | exact hK | fail))
              (refine wpAnyP_one (i := 15) (by kernel_rfl) rfl (by rfl) (fun wa hwa K hK => ?_))
              have hA1 := hP0 _ _ hC0 hwa
              have hsz := HSZ.out
              have hi9 := HIN.out
              refine wp_store_at (HBX.out.below hA1) rfl rfl rfl (by simp; omega) (by kernel_rfl) (by simp [Value.oneCell']) (fun wb zs ho => ?_)
              dsimp only [Act.put]
              refine hK _ _ zs.lt ?_
              clear hK K
              have hLb := (HL.out.trans (hA1.mono HL.out.size)).trans (ho.below HG5.out)
              have hC1 := zs.lt
              clear hC0
              have hC0 := hC1
              clear hC1
              (refine wpAnyP_one (i := 16) (by kernel_rfl) rfl (by rfl) (fun wc hwc K hK => ?_))
              go_simp
              refine hK _ _ (Nat.lt_of_lt_of_le zs.lt hwc.size) ?_
              clear hK K
              replace zs := zs.below hwc
              replace hLb := hLb.trans (hwc.mono hLb.size)
              (refine wpAnyP_one (i := 17) (by kernel_rfl) rfl (by rfl) (fun wd hwd K hK => ?_))
              have hLd := hLb.trans (hwd.mono hLb.size)
              refine wp_store_at (zs.below hwd) rfl rfl rfl (by rw [setA_size]; simp; omega) (by kernel_rfl) (by simp [Value.oneCell']) (fun we zt ho2 => ?_)
              dsimp only [Act.put]
              refine hK _ _ zt.lt ?_
              clear hK K
              refine wpAnyP_done (by kernel_rfl) (fun wz hwz => ?_) _
              have hLe := hLd.trans (ho2.below HG5.out)
              have HL2 := Lib.hid (hLe.trans (hwz.mono hLe.size))
              have HBX2 := Lib.hid (zt.below hwz)
              clear hP0 hP1 hP01 hC0 hwa hA1 zs ho hLb hwz hwc hwd zt ho2 hLd hLe hsz hi9 HBX HL HF1 HF2 HSZ
              obtain ⟨cv1, hcv⟩ : ∃ c, c = setA (setA cv0 (i * 9) #[.int .i64 d0, .int .i64 d1, .int .i64 d2, .int .i64 d3, .int .i64 d4, .int .i64 d5, .int .i64 d6, .int .i64 d7, .int .i64 d8].toList) (j * 9) #[.int .i64 a0, .int .i64 a1, .int .i64 a2, .int .i64 a3, .int .i64 a4, .int .i64 a5, .int .i64 a6, .int .i64 a7, .int .i64 a8].toList := ⟨_, rfl⟩
              have HBX := Lib.hid (show Box g5 cv1 48 wz by rw [hcv]; exact HBX2.out)
              replace HR3 := Lib.hid (show ZRow n (swZ z i (j + 1)) cv1 by rw [hcv]; exact HR3.out)
              have HL := HL2
              clear hcv HBX2 HL2 cv0
              go_wp2_with fail
              go_loopw [16] (fun v16 wr => ∃ (m : Nat) (cv : Array Value), j + 1 ≤ m ∧ m ≤ n ∧ v16 = .int .i64 m ∧ Hid (ZRow n (swZ z i m) cv) ∧ Hid (Box g5 cv 48 wr) ∧ Hid (Below W.heap.size W wr)) (fun v16 _ => n - (intOf v16).toNat)
              case atStart => exact ⟨j + 1, cv1, Nat.le_refl _, by omega, by have := HJ.out; simp; omega, HR3, HBX, HL⟩
              case round =>
                clear HL HBX HR3
                obtain ⟨m, cv, hm0, hm, rfl, HR, HBX, HL⟩ := hrel
                have HM2 := Lib.hid (show i + 2 ≤ m by have := HJ.out; omega)
                by_cases hmlt : m < n
                · have hk0 : (0 : Int) ≤ (m : Int) := by omega
                  have hk1 : (m : Int) < (n : Int) := by omega
                  obtain ⟨b9, o9, e9, hl9, -, -, -, -, -, -, -, -, c8⟩ := HA.out _ HL.out m hmlt
                  cases e9
                  have HSTP := Lib.hid (swZ_step (z := z) HM2.out)
                  have HAT := Lib.hid (swZ_at (z := z) HM2.out)
                  have HMN := Lib.hid hmlt
                  have hcell := HBX.out.cell (m * 9 + 8) ((HR.out.2 m hmlt 8 (by omega)).trans (by rw [HAT.out]; rfl))
                  have hfz := HBX.out.frozen (m * 9 + 8)
                  have hlt5 := HBX.out.lt
                  have hsz := HR.out.1
                  have hix : ∀ W : World, (Instr.indexAt 22 (.slice (some ⟨g5, 0, none⟩) n c5) (.int .i64 (m : Nat))).run Try.prog W = .ok (.pointer (some ⟨g5, m * 9, none⟩)) W := fun W => ix22 hmlt W
                  have HREN := Lib.hid (show (z m).ren i = ⟨(z m).i, (z m).m, (z m).e, (z m).l, swP i (z m).p⟩ from rfl)
                  have HRS := Lib.hid (fun a b => ren_same (x := z m) (i := i) a b)
                  obtain ⟨Zm, hZm⟩ : ∃ Zm, Zm = z m := ⟨_, rfl⟩
                  rw [← hZm] at c8 HSTP HAT hcell HREN HRS
                  clear hZm
                  obtain ⟨⟨f0, f1⟩, ⟨f2, f3⟩, ⟨f4, f5⟩, ⟨f6, f7⟩, f8⟩ := Zm
                  simp only at c8 hcell HREN HRS
                  by_cases hp1 : f8 = (i : Int)
                  · as_aux_lemma =>
                    have hpb : (f8 == (i : Int)) = true := by simpa using hp1
                    have HNR := Lib.hid (show ZRow n (swZ z i (m + 1)) (cv.setIfInBounds (m * 9 + 8) (.int .i64 (j : Nat))) by
                      rw [HSTP.out, HREN.out]
                      refine ZRow.set1 HR.out HMN.out (by omega) ?_
                      rw [HAT.out]
                      have e9 : swP i f8 = (j : Int) := by unfold swP; rw [if_pos hp1]; have := HJ.out; omega
                      rw [e9]
                      exact cells_if rfl rfl rfl rfl rfl rfl rfl rfl rfl)
                    have hpj : (f8 == (j : Int)) = false := by simp; have := HJ.out; omega
                    clear hp1 HSTP HREN HAT HRS
                    go_upto_region 33 with fail
                    have ho := (Only.refl g5 wr).setCell (m * 9 + 8) (.int .i64 (j : Nat))
                    have HL2 := Lib.hid (HL.out.trans (ho.below HG5.out))
                    have HBX2 := Lib.hid (HBX.out.set (m * 9 + 8) (.int .i64 (j : Nat)))
                    clear hcell hfz hlt5
                    obtain ⟨b9, o9, e9, hl9, -, -, -, -, -, -, -, -, c8⟩ := HA.out _ HL2.out m HMN.out
                    cases e9
                    go_wp2_with fail
                    go_roundw
                    case rel => exact ⟨m + 1, _, by omega, by omega, by go_num, HNR, HBX2, HL2⟩
                    case measure => simp [intOf]; omega
                  · have hpb : (f8 == (i : Int)) = false := by simpa using hp1
                    by_cases hp2 : f8 = (j : Int)
                    · as_aux_lemma =>
                      have hpj : (f8 == (j : Int)) = true := by simpa using hp2
                      have HNR := Lib.hid (show ZRow n (swZ z i (m + 1)) (cv.setIfInBounds (m * 9 + 8) (.int .i64 (i : Nat))) by
                        rw [HSTP.out, HREN.out]
                        refine ZRow.set1 HR.out HMN.out (by omega) ?_
                        rw [HAT.out]
                        have e9 : swP i f8 = (i : Int) := by unfold swP; rw [if_neg hp1, if_pos (by have := HJ.out; omega)]
                        rw [e9]
                        exact cells_if rfl rfl rfl rfl rfl rfl rfl rfl rfl)
                      have ho := (Only.refl g5 wr).setCell (m * 9 + 8) (.int .i64 (i : Nat))
                      have HL2 := Lib.hid (HL.out.trans (ho.below HG5.out))
                      have HBX2 := Lib.hid (HBX.out.set (m * 9 + 8) (.int .i64 (i : Nat)))
                      clear hp1 hp2 HSTP HREN HAT HRS ho
                      go_wp2_with fail
                      go_roundw
                      case rel => exact ⟨m + 1, _, by omega, by omega, by go_num, HNR, HBX2, HL2⟩
                      case measure => simp [intOf]; omega
                    · as_aux_lemma =>
                      have hpj : (f8 == (j : Int)) = false := by simpa using hp2
                      have HNR := Lib.hid (show ZRow n (swZ z i (m + 1)) cv by
                        rw [HSTP.out, HRS.out hp1 (by have := HJ.out; omega), ← HAT.out, updZ_id]
                        exact HR.out)
                      clear hp1 hp2 HSTP HREN HAT HRS hcell hfz hlt5
                      go_wp2_with fail
                      go_roundw
                      case rel => exact ⟨m + 1, cv, by omega, by omega, by go_num, HNR, HBX, HL⟩
                      case measure => simp [intOf]; omega
                · have hmn : n = m := by omega
                  subst hmn
                  as_aux_lemma =>
                    have HL6 := Lib.hid (losses_any (some ⟨g5, 0, none⟩) n c5 (swZ z i n) wr (by omega) (HR.out.at_ HBX.out))
                    clear HR HBX
                    have HSA := Lib.hid (HSY.out.1.all HTR.out HSY.out.2)
                    have HSD := Lib.hid (HSY.out.1.dn HTR.out HSY.out.2)
                    have HII := Lib.hid HSY.out.1.hi
                    obtain ⟨y9, hy9⟩ : ∃ f, f = swZ z i n := ⟨_, rfl⟩
                    rw [← hy9] at HL6 HSA HSB2
                    simp only [← hy9] at HSD
                    clear hy9 HSY
                    go_wp2_with fail
                    refine HL6.out.mono ?_
                    intro e w16 hp
                    obtain ⟨rfl, hb⟩ := loss_none hp HSB2.out (fun h => HALL.out (HSA.out.1 h))
                    replace HL := Lib.hid (HL.out.trans (hb.mono HL.out.size))
                    clear hp hb HL6 HSA HSD
                    go_wp2_with fail
                    go_loopw [19] (fun v19 wr => v19 = .int .i64 0 ∧ Hid (Below W.heap.size W wr)) (fun _ _ => 0)
                    case atStart => exact ⟨rfl, HL⟩
                    case round =>
                      clear HL
                      obtain ⟨rfl, HL⟩ := hrel
                      go_wp2_with fail
                      refine (awake_any _).mono ?_
                      rintro e wz ⟨rfl, hb⟩
                      replace HL := Lib.hid (HL.out.trans (hb.mono HL.out.size))
                      go_wp2_with fail
                      go_ret
                      exact ⟨rfl, HB.out.trans (HL.out.mono HB.out.size)⟩
          · have j2 : decide ((n : Int) ≤ (i : Int) + 1) = true := decide_eq_true (by omega)
            go_wp2_with fail
            refine (awake_any _).mono ?_
            rintro e wz ⟨rfl, hb⟩
            replace HL := Lib.hid (HL.out.trans (hb.mono HL.out.size))
            go_wp2_with fail
            go_ret
            exact ⟨rfl, HB.out.trans (HL.out.mono HB.out.size)⟩
end Go.Proofs.Ytipnaeijbbbdoaa
