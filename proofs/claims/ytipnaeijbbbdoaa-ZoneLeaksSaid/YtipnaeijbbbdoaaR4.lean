/- Zone, the document's side: Losses, Wrong. -/
import Derived.Test.YtipnaeijbbbdoaaR3
import Derived.Laws.MakeOwn
namespace Go.Proofs.Ytipnaeijbbbdoaa
open Go.RowKit
theorem make24 {n : Nat} (h : n ≤ 1000000) (W : World) : (Instr.makeSlice 24 (.int .i64 (n : Nat)) (.int .i64 (n : Nat))).run Try.prog W = .ok (.slice (some ⟨W.heap.size, 0, none⟩) n n) (W.alloc (.cells (madeCells #[.int .i64 0, .int .i64 0] (n * 2)) 41)) := by
  obtain ⟨iU, hiU, hzU0, hzU1, hzU2⟩ := info_parts (P := Try.prog) (e := 41) (z := .agg #[.int .i64 0, .int .i64 0]) (size := 2) (bytes := 16) (by kernel_rfl)
  have hr := run_make (P := Try.prog) W 24 41 iU _ Try.underlying24 hiU hzU0 .i64 .i64 (n : Nat) (n : Nat) (by omega) (Int.le_refl _) (by rw [hzU2]; omega) (by omega)
  rw [hzU1, Int.toNat_natCast] at hr
  exact hr
theorem made_srow (n : Nat) : SRow n (fun _ => ⟨0, 0⟩) (madeCells #[.int .i64 0, .int .i64 0] (n * 2)) := by
  have key : ∀ j, j < n * 2 → (madeCells #[.int .i64 0, .int .i64 0] (n * 2))[j]? = some (.int .i64 0) := fun j hj => by
    unfold madeCells
    rw [Array.getElem?_map, Array.getElem?_range, if_pos hj]
    rcases Nat.mod_two_eq_zero_or_one j with h | h
    · simp [h]
    · simp [h]
  exact ⟨by rw [size_madeCells]; omega, fun i hi => ⟨key _ (by omega), key _ (by omega)⟩⟩
theorem SRow.congr {n : Nat} {s t : Nat → Spn} {cur : Array Value} (h : SRow n s cur) (e : ∀ i, i < n → s i = t i) : SRow n t cur := ⟨h.1, fun i hi => by rw [← e i hi]; exact h.2 i hi⟩
/-- what is at rest, and greatest, below a top zone, is its losses -/
theorem fam_loss {z : Nat → Zon} {n q : Nat} {s : Nat → Spn} (hz : Tree z n) (hqn : q < n) (hq : (z q).p = -1) (hf : Fam z n q s) (hg : ∀ t, Fam z n q t → Wthn z n q t s) : (rs z n q).isSome = true ∧ ∀ i, i < n → Und z q i → s i = dnF z n i := by
  have hs := (fam_iff hz hqn).1 ⟨s, hf⟩
  refine ⟨hs, fun i hi hu => ?_⟩
  have h1 := hf.dn hz hq i hi hu
  have h2 := hg _ (top_fam hz hq hs) i hi hu
  generalize dnF z n i = a at h1 h2
  generalize s i = b at h1 h2
  obtain ⟨a1, a2⟩ := a
  obtain ⟨b1, b2⟩ := b
  simp only at h1 h2
  rw [show b1 = a1 by omega, show b2 = a2 by omega]
/-- if all top zones have numbers, all have -/
theorem all_of_tops {z : Nat → Zon} {n : Nat} (hz : Tree z n) (h : ∀ t, t < n → (z t).p = -1 → (rs z n t).isSome = true) : AllR z n := fun i hi => by
  obtain ⟨r, h1, h2, h3⟩ := has_top hz i hi
  exact rs_down hz h3 hi (h r (by omega) h2)
set_option maxRecDepth 100000 in
set_option maxHeartbeats 16000000 in
theorem dlosses_any (oa : Option Addr) (n ca : Nat) (z : Nat → Zon) (w : World) (hn : n ≤ 1000000) (hA : ZonsAt w oa n z) :
    Calls Try.prog 14 #[.slice oa n ca] w (LossP n z w) := by
  have HA := Lib.hid (fun (V : World) (hV : Below w.heap.size w V) => hA.mono hV)
  have HLI := Lib.hid (zones_any oa n ca z w hn hA)
  clear hA
  go_enter Try.func14, Try.ntmps14
  go_wp2_with fail
  refine HLI.out.mono ?_
  rintro e w1 ⟨rfl, hb1⟩
  have HB1 := Lib.hid hb1
  clear hb1 HLI
  cases hlb : listB n z
  · have HLB := Lib.hid hlb
    clear hlb
    go_wp2_with fail
    refine bodyPost_ret (v := .tuple #[.slice none 0 0, .int .i64 1]) (by simp [results, Try.results14, go_sem]) rfl ⟨HB1.out, .inl ⟨HLB.out, rfl⟩⟩
  · have HLB := Lib.hid hlb
    obtain ⟨hn1, hn2, hz, hok⟩ := listB_spec hlb
    have HZ := Lib.hid hz
    have HNA := Lib.hid (fun (V : World) (hV : Below w.heap.size w V) (q : Nat) (hq : q < n) => narrow_any oa n ca q z V hn2 hq hz hok (HA.out V hV))
    have HBE := Lib.hid (fun (V : World) (hV : Below w.heap.size w V) (q i : Nat) (hi : i < n) => below_any oa n ca z q hz i V hi (HA.out V hV))
    clear hlb hz hok
    have hmk : ∀ W : World, (Instr.makeSlice 24 (.int .i64 (n : Nat)) (.int .i64 (n : Nat))).run Try.prog W = .ok (.slice (some ⟨W.heap.size, 0, none⟩) n n) (W.alloc (.cells (madeCells #[.int .i64 0, .int .i64 0] (n * 2)) 41)) := fun W => make24 (by omega) W
    have hrow := made_srow n
    obtain ⟨cur0, hcur⟩ : ∃ c, c = madeCells #[.int .i64 0, .int .i64 0] (n * 2) := ⟨_, rfl⟩
    rw [← hcur] at hrow
    simp only [← hcur] at hmk
    have HR := Lib.hid hrow
    clear hrow hcur
    go_upto_region 4 with fail
    clear hmk
    have HX := Lib.hid (Box.new (g := w1.heap.size) cur0 41 w1 rfl)
    have HL := Lib.hid (HB1.out.trans ((below_alloc1 w1 (.cells cur0 41)).mono HB1.out.size))
    have HG := Lib.hid (show w.heap.size ≤ w1.heap.size from HB1.out.size)
    obtain ⟨gO, hG⟩ : ∃ G, G = w1.heap.size := ⟨_, rfl⟩
    obtain ⟨W2, hW⟩ : ∃ X, X = w1.alloc (.cells cur0 41) := ⟨_, rfl⟩
    rw [← hW] at HX HL ⊢
    rw [← hG] at HX HG ⊢
    clear hG hW HB1
    go_wp2_with fail
    go_loopw [5] (fun v5 wr => ∃ (zz : Nat) (o : Nat → Spn) (cur : Array Value), zz ≤ n ∧ v5 = .int .i64 zz ∧ Hid (Box gO cur 41 wr) ∧ Hid (SRow n o cur) ∧ Hid (∀ t, t < zz → (z t).p = -1 → (rs z n t).isSome = true ∧ ∀ i, i < n → Und z t i → o i = dnF z n i) ∧ Hid (Below w.heap.size w wr)) (fun v5 _ => n - (intOf v5).toNat)
    case atStart => exact ⟨0, _, cur0, Nat.zero_le _, rfl, HX, HR, Lib.hid fun t ht => by omega, HL⟩
    case round =>
      clear HX HR HL
      obtain ⟨zz, o, cur, hzz, rfl, HX, HR, HT, HL⟩ := hrel
      by_cases hlt : zz < n
      · as_aux_lemma =>
        have HZL := Lib.hid hlt
        have hk0 : (0 : Int) ≤ (zz : Int) := by omega
        have hk1 : (zz : Int) < (n : Int) := by omega
        obtain ⟨b, off, hoa, hl, -, -, -, -, -, -, -, -, c8⟩ := (HA.out _ HL.out) zz hlt
        subst hoa
        by_cases hp : (z zz).p = -1
        · rw [hp] at c8
          have HP := Lib.hid hp
          clear hp
          go_wp2_with fail
          refine (HNA.out _ HL.out zz HZL.out).mono ?_
          rintro e w3 ⟨hb, ⟨rfl, hno⟩ | ⟨oS, cS, s, rfl, hsp, hba, hfam, hgr⟩⟩
          · have HNO := Lib.hid (show ¬ AllR z n from fun h => hno ((fam_iff HZ.out HZL.out).2 (h zz HZL.out)))
            replace HL := Lib.hid (HL.out.trans (hb.mono HL.out.size))
            clear hno hb c8 hl
            go_wp2_with fail
            refine bodyPost_ret (v := .tuple #[.slice none 0 0, .int .i64 6]) (by simp [results, Try.results14, go_sem]) rfl ⟨HL.out, .inr (.inl ⟨HLB.out, HNO.out, rfl⟩)⟩
          · have HFL := Lib.hid (fam_loss HZ.out HZL.out HP.out hfam hgr)
            obtain ⟨bS, oS9, hoS, -⟩ := hsp 0 (by omega)
            subst hoS
            have HSP := Lib.hid hsp
            have HNS := Lib.hid (show bS ≠ gO by have h1 := hba _ rfl; have h2 := HX.out.lt; simp only at h1; omega)
            replace HL := Lib.hid (HL.out.trans (hb.mono HL.out.size))
            replace HX := Lib.hid (HX.out.below hb)
            clear hsp hba hfam hgr hb c8 hl
            go_wp2_with fail
            go_loopw [8] (fun v8 wr => ∃ (i : Nat) (o : Nat → Spn) (cur : Array Value), i ≤ n ∧ v8 = .int .i64 i ∧ Hid (Box gO cur 41 wr) ∧ Hid (SRow n o cur) ∧ Hid (∀ t, t < zz → (z t).p = -1 → (rs z n t).isSome = true ∧ ∀ i, i < n → Und z t i → o i = dnF z n i) ∧ Hid (∀ j, j < i → j < n → Und z zz j → o j = dnF z n j) ∧ Hid (SpnsAt wr (some ⟨bS, oS9, none⟩) n s) ∧ Hid (Below w.heap.size w wr)) (fun v8 _ => n - (intOf v8).toNat)
            case atStart => exact ⟨0, o, cur, Nat.zero_le _, rfl, HX, HR, HT, Lib.hid fun j hj => by omega, HSP, HL⟩
            case round =>
              clear HX HR HT HSP HL
              obtain ⟨i, o, cur, hi, rfl, HX, HR, HT, HJ, HSP, HL⟩ := hrel
              by_cases hil : i < n
              · as_aux_lemma =>
                have HIL := Lib.hid hil
                have hi0 : (0 : Int) ≤ (i : Int) := by omega
                have hi1 : (i : Int) < (n : Int) := by omega
                go_wp2_with fail
                refine (HBE.out _ HL.out zz i HIL.out).mono ?_
                rintro e w4 ⟨rfl, hb⟩
                replace HL := Lib.hid (HL.out.trans (hb.mono HL.out.size))
                replace HX := Lib.hid (HX.out.below hb)
                replace HSP := Lib.hid (HSP.out.mono hb)
                clear hb
                cases hub : undB z zz i
                · have HJ2 := Lib.hid (show ∀ j, j < i + 1 → j < n → Und z zz j → o j = dnF z n j from fun j hj hjn hu => by
                    by_cases hji : j = i
                    · subst hji; rw [undB_iff.2 hu] at hub; cases hub
                    · exact HJ.out j (by omega) hjn hu)
                  clear hub HJ
                  go_wp2_with fail
                  go_roundw
                  case rel => exact ⟨i + 1, o, cur, by omega, by go_num, HX, HR, HT, HJ2, HSP, HL⟩
                  case measure => simp [intOf]; omega
                · have HU := Lib.hid (undB_iff.1 hub)
                  clear hub
                  obtain ⟨b9, o9, e9, lS, d0, d1⟩ := HSP.out i HIL.out
                  cases e9
                  have HEQ := Lib.hid (HFL.out.2 i HIL.out HU.out)
                  rw [HEQ.out] at d0 d1
                  have HT2 := Lib.hid (show ∀ t, t < zz → (z t).p = -1 → (rs z n t).isSome = true ∧ ∀ j, j < n → Und z t j → updS o i (dnF z n i) j = dnF z n j from fun t ht hp => ⟨(HT.out t ht hp).1, fun j hj hu => by
                    by_cases hji : j = i
                    · subst hji; exact updS_self _ _ _
                    · rw [updS_ne hji]; exact (HT.out t ht hp).2 j hj hu⟩)
                  have HJ2 := Lib.hid (show ∀ j, j < i + 1 → j < n → Und z zz j → updS o i (dnF z n i) j = dnF z n j from fun j hj hjn hu => by
                    by_cases hji : j = i
                    · subst hji; exact updS_self _ _ _
                    · rw [updS_ne hji]; exact HJ.out j (by omega) hjn hu)
                  have HR2 := Lib.hid (HR.out.set HIL.out (dnF z n i))
                  have hcell := HR.out.2 i HIL.out
                  have x0 := HX.out.cell (i * 2) hcell.1
                  have x1 := HX.out.cell (i * 2 + 1) hcell.2
                  have x2 := HX.out.frozen (i * 2)
                  have x3 := HX.out.frozen (i * 2 + 1)
                  have x4 := HX.out.lt
                  have hix : ∀ W : World, (Instr.indexAt 24 (.slice (some ⟨gO, 0, none⟩) n n) (.int .i64 (i : Nat))).run Try.prog W = .ok (.pointer (some ⟨gO, i * 2, none⟩)) W := fun W => ix24 HIL.out W
                  obtain ⟨D, hD⟩ : ∃ D, D = dnF z n i := ⟨_, rfl⟩
                  rw [← hD] at d0 d1 HR2 HT2 HJ2
                  clear hD hcell HT HJ HR HEQ
                  obtain ⟨dlo, dhi⟩ := D
                  simp only at d0 d1 HR2
                  go_upto_region 13 with fail
                  have ho := ((Only.refl gO w4).setCell (i * 2) (.int .i64 dlo)).setCell (i * 2 + 1) (.int .i64 dhi)
                  have HX2 := Lib.hid (show Box gO (setA cur (i * 2) [.int .i64 dlo, .int .i64 dhi]) 41 _ from (HX.out.set (i * 2) (.int .i64 dlo)).set (i * 2 + 1) (.int .i64 dhi))
                  have HL2 := Lib.hid (HL.out.trans (ho.below HG.out))
                  have HSP2 := Lib.hid (HSP.out.only ho HNS.out)
                  clear x0 x1 x2 x3 x4 hix ho d0 d1 lS HX HL HSP
                  go_wp2_with fail
                  go_roundw
                  case rel => exact ⟨i + 1, _, _, by omega, by go_num, HX2, HR2, HT2, HJ2, HSP2, HL2⟩
                  case measure => simp [intOf]; omega
              · have hin : n = i := by omega
                subst hin
                have HT2 := Lib.hid (show ∀ t, t < zz + 1 → (z t).p = -1 → (rs z n t).isSome = true ∧ ∀ i, i < n → Und z t i → o i = dnF z n i from fun t ht hp => by
                  by_cases htz : t = zz
                  · subst htz
                    exact ⟨HFL.out.1, fun j hj hu => HJ.out j hj hj hu⟩
                  · exact HT.out t (by omega) hp)
                clear HT HJ
                go_wp2_with fail
                go_roundw
                case rel => exact ⟨zz + 1, o, cur, by omega, by go_num, HX, HR, HT2, HL⟩
                case measure => simp [intOf]; omega
        · have HT2 := Lib.hid (show ∀ t, t < zz + 1 → (z t).p = -1 → (rs z n t).isSome = true ∧ ∀ i, i < n → Und z t i → o i = dnF z n i from fun t ht hpt => by
            by_cases htz : t = zz
            · subst htz; exact absurd hpt hp
            · exact HT.out t (by omega) hpt)
          obtain ⟨pp, hpp⟩ : ∃ v, v = (z zz).p := ⟨_, rfl⟩
          rw [← hpp] at c8 hp
          have hpb : (pp != -1) = true := by simpa using hp
          clear hpp hp HT
          go_wp2_with fail
          go_roundw
          case rel => exact ⟨zz + 1, o, cur, by omega, by go_num, HX, HR, HT2, HL⟩
          case measure => simp [intOf]; omega
      · have hzn : n = zz := by omega
        subst hzn
        have HAL := Lib.hid (all_of_tops HZ.out fun t ht hp => (HT.out t ht hp).1)
        have HSA := Lib.hid (show SpnsAt wr (some ⟨gO, 0, none⟩) n (dnF z n) from (HR.out.congr fun i hi => by
          obtain ⟨r, h1, h2, h3⟩ := has_top HZ.out i hi
          exact (HT.out r (by omega) h2).2 i hi h3).at_ HX.out)
        clear HT HR HX
        go_wp2_with fail
        refine bodyPost_ret (v := .tuple #[.slice (some ⟨gO, 0, none⟩) n n, .int .i64 0]) (by simp [results, Try.results14, go_sem]) rfl ⟨HL.out, .inr (.inr ⟨HLB.out, HAL.out, some ⟨gO, 0, none⟩, n, rfl, HSA.out, fun a e => (by cases e; exact HG.out)⟩)⟩
set_option maxRecDepth 100000 in
set_option maxHeartbeats 8000000 in
theorem dwrong_any (oa : Option Addr) (n ca : Nat) (z : Nat → Zon) (w : World) (hn : n ≤ 1000000) (hA : ZonsAt w oa n z) :
    Calls Try.prog 16 #[.slice oa n ca] w (WrongP n z w) := by
  have HA := Lib.hid (fun (V : World) (hV : Below w.heap.size w V) => hA.mono hV)
  have HLI := Lib.hid (zones_any oa n ca z w hn hA)
  clear hA
  go_enter Try.func16, Try.ntmps16
  go_wp2_with fail
  refine HLI.out.mono ?_
  rintro e w1 ⟨rfl, hb1⟩
  have HB1 := Lib.hid hb1
  clear hb1 HLI
  cases hlb : listB n z
  · have HLB := Lib.hid hlb
    clear hlb
    go_wp2_with fail
    refine bodyPost_ret (v := .tuple #[.int .i64 0, .int .i64 1]) (by simp [results, Try.results16, go_sem]) rfl ⟨HB1.out, .inl ⟨HLB.out, rfl⟩⟩
  · have HLB := Lib.hid hlb
    obtain ⟨hn1, hn2, hz, hok⟩ := listB_spec hlb
    have HZ := Lib.hid hz
    have HNA := Lib.hid (fun (V : World) (hV : Below w.heap.size w V) (q : Nat) (hq : q < n) => narrow_any oa n ca q z V hn2 hq hz hok (HA.out V hV))
    clear hlb hz hok
    go_wp2_with fail
    go_loopw [4] (fun v4 wr => ∃ m : Nat, m ≤ n ∧ v4 = .int .i64 ((m : Int) - 1) ∧ Hid (∀ j, m ≤ j → j < n → (rs z n j).isSome = true) ∧ Hid (Below w.heap.size w wr)) (fun v4 _ => (intOf v4 + 1).toNat)
    case atStart => exact ⟨n, Nat.le_refl _, rfl, Lib.hid fun j h1 h2 => by omega, HB1⟩
    case round =>
      obtain ⟨m1, hm, rfl, HJ, HL⟩ := hrel
      rcases Nat.eq_zero_or_pos m1 with rfl | hpos
      · have HAL := Lib.hid (show AllR z n from fun j hj => HJ.out j (Nat.zero_le _) hj)
        go_wp2_with fail
        refine bodyPost_ret (v := .tuple #[.int .i64 0, .int .i64 4]) (by simp [results, Try.results16, go_sem]) rfl ⟨HL.out, .inr (.inl ⟨HLB.out, HAL.out, rfl⟩)⟩
      · obtain ⟨k, rfl⟩ : ∃ k, m1 = k + 1 := ⟨m1 - 1, by omega⟩
        have hkk : ((k + 1 : Nat) : Int) - 1 = (k : Int) := by omega
        rw [hkk]
        have HKL := Lib.hid (show k < n by omega)
        have hk0 : (0 : Int) ≤ (k : Int) := by omega
        have hk1 : (k : Int) < (n : Int) := by omega
        clear hkk
        go_wp2_with fail
        refine (HNA.out _ HL.out k HKL.out).mono ?_
        rintro e w3 ⟨hb, ⟨rfl, hno⟩ | ⟨oS, cS, s, rfl, -, -, hfam, -⟩⟩
        · have HNO := Lib.hid (show rs z n k = none by
            cases h : rs z n k
            · rfl
            · exact absurd ((fam_iff HZ.out HKL.out).2 (by rw [h]; rfl)) hno)
          have HJ2 := Lib.hid (show ∀ j, k < j → j < n → (rs z n j).isSome = true from fun j h1 h2 => HJ.out j (by omega) h2)
          replace HL := Lib.hid (HL.out.trans (hb.mono HL.out.size))
          clear hno hb HJ
          go_wp2_with fail
          refine bodyPost_ret (v := .tuple #[.int .i64 k, .int .i64 0]) (by simp [results, Try.results16, go_sem]) rfl ⟨HL.out, .inr (.inr ⟨HLB.out, k, HKL.out, HNO.out, HJ2.out, rfl⟩)⟩
        · have HJ2 := Lib.hid (show ∀ j, k ≤ j → j < n → (rs z n j).isSome = true from fun j h1 h2 => by
            by_cases hjk : j = k
            · subst hjk; exact (fam_iff HZ.out HKL.out).1 ⟨s, hfam⟩
            · exact HJ.out j (by omega) h2)
          replace HL := Lib.hid (HL.out.trans (hb.mono HL.out.size))
          clear hfam hb HJ
          go_wp2_with fail
          go_roundw
          case rel => exact ⟨k, by omega, rfl, HJ2, HL⟩
          case measure => simp [intOf]
end Go.Proofs.Ytipnaeijbbbdoaa
