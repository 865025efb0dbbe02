/- Zone: fall, for all trees. -/
import Derived.Test.YtipnaeijbbbdoaaW8
namespace Go.Proofs.Ytipnaeijbbbdoaa
open Go.RowKit
set_option maxRecDepth 100000 in
set_option maxHeartbeats 8000000 in
/-- fall: all losses made narrower from above -/
theorem fall_any (oa : Option Addr) (n ca : Nat) (z : Nat → Zon) (w : World) (gt : Nat) (T : Nat → Spn) (W : World) (hA : ZonsAt w oa n z) (hn : n ≤ 12) (hz : Tree z n) (hok : ∀ i, i < n → (z i).ok) (hall : ∀ i, i < n → (rs z n i).isSome = true) (hg : w.heap.size ≤ gt)
    (hlow : Below w.heap.size w W) (hbx : Box gt (towC (.slice oa n ca) T) 66 W) (hT : ∀ j, j < n → T j = S z n j) :
    Calls Try.prog 37 #[.pointer (some ⟨gt, 0, none⟩)] W fun e w' => (∃ v, e = .returned v) ∧ ∃ T', Box gt (towC (.slice oa n ca) T') 66 w' ∧ Same (· ≠ gt) W w' ∧ (∀ j, j < n → T' j = dnF z n j) := by
  have HFR := Lib.hid (fun (bt bf i : Nat) (hgb : gt ≠ bt ∧ gt ≠ bf) (hi : i < n) => from_any oa n ca z w gt bt bf hA hn hz hok hall hg hgb n i hi (by omega))
  have HA := Lib.hid hA
  have HZ := Lib.hid hz
  have HG := Lib.hid hg
  have HL := Lib.hid hlow
  have HBX := Lib.hid hbx
  have HT := Lib.hid hT
  clear hA hz hok hall hg hlow hbx hT
  have HTOP := Lib.hid (fun (k j : Nat) (h : (z k).p = -1) => show dnF z n k = S z n k from dnF_top h)
  go_enter Try.func37, Try.ntmps37
  go_upto_region 3 with fail
  have hb1 := (below_alloc1 W (.cells #[.pointer (some ⟨gt, 0, none⟩)] 63)).alloc (by simp) (.cells #[.func (.func 62) #[] #[.pointer (some ⟨W.heap.size, 0, none⟩), .pointer (some ⟨W.heap.size + 1, 0, none⟩)]] 101)
  have hB1 := (Box.new (g := W.heap.size) #[.pointer (some ⟨gt, 0, none⟩)] 63 W rfl).old (.cells #[.func (.func 62) #[] #[.pointer (some ⟨W.heap.size, 0, none⟩), .pointer (some ⟨W.heap.size + 1, 0, none⟩)]] 101)
  have hB2 := Box.new (g := W.heap.size + 1) #[.func (.func 62) #[] #[.pointer (some ⟨W.heap.size, 0, none⟩), .pointer (some ⟨W.heap.size + 1, 0, none⟩)]] 101 (W.alloc (.cells #[.pointer (some ⟨gt, 0, none⟩)] 63)) (by simp)
  obtain ⟨Y, hY⟩ : ∃ Y, Y = (W.alloc (.cells #[.pointer (some ⟨gt, 0, none⟩)] 63)).alloc (.cells #[.func (.func 62) #[] #[.pointer (some ⟨W.heap.size, 0, none⟩), .pointer (some ⟨W.heap.size + 1, 0, none⟩)]] 101) := ⟨_, rfl⟩
  rw [← hY] at hb1 hB1 hB2 ⊢
  clear hY
  obtain ⟨bf, hbf⟩ : ∃ G, G = W.heap.size + 1 := ⟨_, rfl⟩
  rw [← hbf] at hB2 ⊢
  obtain ⟨bt, hbt⟩ : ∃ G, G = W.heap.size := ⟨_, rfl⟩
  have HBE := Lib.hid hbt
  have hlt0 := HBX.out.lt
  rw [← hbt] at hB1 hB2 ⊢
  have HGB := Lib.hid (show gt ≠ bt ∧ gt ≠ bf by omega)
  have HWY := Lib.hid hb1
  have HBT := Lib.hid hB1
  have HBF := Lib.hid hB2
  have HLY := Lib.hid (HL.out.trans (hb1.mono HL.out.size))
  have HBXY := Lib.hid (HBX.out.below hb1)
  clear hb1 hB1 hB2 hbf hbt hlt0
  have c1 := HBT.out.cell 0 (v := .pointer (some ⟨gt, 0, none⟩)) rfl
  have c2 := HBXY.out.cell 0 (v := .slice oa n ca) rfl
  have l2 := HBXY.out.lt
  have HFX := Lib.hid (fun (i : Nat) (hi : i < n) => HFR.out bt bf i HGB.out hi)
  clear HFR
  go_wp2_with fail
  go_loopw [11] (fun v11 wr => ∃ (k : Nat) (T1 : Nat → Spn), k ≤ n ∧ v11 = .int .i64 k ∧ Hid (Box gt (towC (.slice oa n ca) T1) 66 wr) ∧ Hid (Same (· ≠ gt) Y wr) ∧ Hid (∀ j, j < n → (∃ r, r < k ∧ (z r).p = -1 ∧ Und z r j) → T1 j = dnF z n j) ∧ Hid (∀ j, (∀ r, r < k → (z r).p = -1 → ¬ Und z r j) → T1 j = T j)) (fun v11 _ => n - (intOf v11).toNat)
  case atStart => exact ⟨0, T, Nat.zero_le _, rfl, HBXY, Lib.hid (Same.refl _ _), Lib.hid (fun j _ h => by obtain ⟨c, hc, _⟩ := h; omega), Lib.hid fun j _ => rfl⟩
  case round =>
    obtain ⟨k, T1, hk, rfl, HGT, HSY, HT1, HT2⟩ := hrel
    clear c1 c2 l2
    by_cases hlt : k < n
    · have HLW := Lib.hid (show Below w.heap.size w wr from HLY.out.trans (HSY.out.below HLY.out.size fun q hq => by have := HG.out; omega))
      obtain ⟨zb, off, hoa, hl, c0, c1, c2, c3, c4, c5, c6, c7, c8⟩ := (HA.out.mono HLW.out) k hlt
      subst hoa
      have HNO := Lib.hid (show (z k).p ≠ -1 → (∀ j, j < n → (∃ r, r < k + 1 ∧ (z r).p = -1 ∧ Und z r j) → T1 j = dnF z n j) ∧ (∀ j, (∀ r, r < k + 1 → (z r).p = -1 → ¬ Und z r j) → T1 j = T j) from fun hp => ⟨fun j hj ⟨r, h1, h2, h3⟩ => HT1.out j hj ⟨r, by
          have : r ≠ k := by rintro rfl; exact hp h2
          omega, h2, h3⟩, fun j h => HT2.out j fun r h1 => h r (by omega)⟩)
      have HYES := Lib.hid (show (z k).p = -1 → T1 k = dnF z n k ∧ (∀ j, j < n → Und z k j → j ≠ k → T1 j = S z n j) ∧ (∀ T3 : Nat → Spn, (∀ j, j < n → Und z k j → T3 j = dnF z n j) → (∀ j, ¬ Und z k j → T3 j = T1 j) → (∀ j, j < n → (∃ r, r < k + 1 ∧ (z r).p = -1 ∧ Und z r j) → T3 j = dnF z n j) ∧ (∀ j, (∀ r, r < k + 1 → (z r).p = -1 → ¬ Und z r j) → T3 j = T j)) from fun hp => by
        have hfree : ∀ j, Und z k j → ∀ r, r < k → (z r).p = -1 → ¬ Und z r j := fun j hu r h1 h2 h3 => by
          have := tops_ne h2 hp h3 hu
          omega
        refine ⟨?_, fun j hj hu _ => ?_, fun T3 h1 h2 => ⟨fun j hj ⟨r, h3, h4, h5⟩ => ?_, fun j h => ?_⟩⟩
        · rw [HT2.out k (hfree k .refl), HT.out k hlt, HTOP.out k 0 hp]
        · rw [HT2.out j (hfree j hu), HT.out j hj]
        · by_cases hu : Und z k j
          · exact h1 j hj hu
          · rw [h2 j hu]
            refine HT1.out j hj ⟨r, ?_, h4, h5⟩
            have : r ≠ k := by rintro rfl; exact hu h5
            omega
        · have hu := h k (by omega) hp
          rw [h2 j hu]
          exact HT2.out j fun r h1 => h r (by omega))
      have HBTW := Lib.hid (show Box bt #[.pointer (some ⟨gt, 0, none⟩)] 63 wr from ⟨(HSY.out.block bt HBT.out.lt (Ne.symm HGB.out.1)).trans HBT.out.row⟩)
      have HBFW := Lib.hid (show Box bf #[.func (.func 62) #[] #[.pointer (some ⟨bt, 0, none⟩), .pointer (some ⟨bf, 0, none⟩)]] 101 wr from ⟨(HSY.out.block bf HBF.out.lt (Ne.symm HGB.out.2)).trans HBF.out.row⟩)
      have HFK := Lib.hid (HFX.out k hlt T1)
      obtain ⟨Z, hZ⟩ : ∃ Z, Z = z k := ⟨_, rfl⟩
      rw [← hZ] at c0 c1 c2 c3 c4 c5 c6 c7 c8 HNO HYES
      clear hZ
      obtain ⟨⟨ilo, ihi⟩, ⟨mlo, mhi⟩, ⟨elo, ehi⟩, ⟨llo, lhi⟩, p⟩ := Z
      simp only at c0 c1 c2 c3 c4 c5 c6 c7 c8 HNO HYES
      have hk0 : (0 : Int) ≤ (k : Int) := by omega
      have hk1 : (k : Int) < (n : Int) := by omega
      clear HT1 HT2
      go_upto_region 6 with fail
      have hbl := below_alloc1 wr (.cells #[.int .i64 ilo, .int .i64 ihi, .int .i64 mlo, .int .i64 mhi, .int .i64 elo, .int .i64 ehi, .int .i64 llo, .int .i64 lhi, .int .i64 p] 48)
      have hbx := Box.new (g := wr.heap.size) #[.int .i64 ilo, .int .i64 ihi, .int .i64 mlo, .int .i64 mhi, .int .i64 elo, .int .i64 ehi, .int .i64 llo, .int .i64 lhi, .int .i64 p] 48 wr rfl
      obtain ⟨gz, hG⟩ : ∃ G, G = wr.heap.size := ⟨_, rfl⟩
      obtain ⟨w1, hW⟩ : ∃ X, X = wr.alloc (.cells #[.int .i64 ilo, .int .i64 ihi, .int .i64 mlo, .int .i64 mhi, .int .i64 elo, .int .i64 ehi, .int .i64 llo, .int .i64 lhi, .int .i64 p] 48) := ⟨_, rfl⟩
      rw [← hW] at hbl hbx ⊢
      rw [← hG] at hbx ⊢
      have HS2 := Lib.hid (HSY.out.trans (Same.of_below hbl fun q hq _ => hq))
      have HGT2 := Lib.hid (HGT.out.below hbl)
      have HBT2 := Lib.hid (HBTW.out.below hbl)
      have HBF2 := Lib.hid (HBFW.out.below hbl)
      have HLW2 := Lib.hid (HLW.out.trans (hbl.mono HLW.out.size))
      have d8 := hbx.cell 8 (v := .int .i64 p) rfl
      have d9 := hbx.lt
      have f5 := HBF2.out.cell 0 (v := .func (.func 62) #[] #[.pointer (some ⟨bt, 0, none⟩), .pointer (some ⟨bf, 0, none⟩)]) rfl
      clear hbl hbx hW hG c0 c1 c2 c3 c4 c5 c6 c7 c8 hl HSY HGT HBTW HBFW HLW
      by_cases hp : p = -1
      · have hp2 : (p == -1) = true := by simp [hp]
        obtain ⟨hy1, hy2, hy3⟩ := HYES.out hp
        have HF9 := Lib.hid (HFK.out w1 HLW2.out HGT2.out HBT2.out HBF2.out hy1 hy2)
        have HY3 := Lib.hid hy3
        clear hy1 hy2 hy3 hp HNO HYES
        go_wp2_with fail
        refine HF9.out.mono ?_
        rintro e y9 ⟨⟨v, rfl⟩, T3, hb3, hs3, h31, h32⟩
        have HB9 := Lib.hid hb3
        have HS9 := Lib.hid (HS2.out.trans hs3)
        have HR9 := Lib.hid (HY3.out T3 h31 h32)
        clear hb3 hs3 h31 h32 f5 d8 d9
        go_wp2_with fail
        go_roundw
        case rel => exact ⟨k + 1, T3, by omega, by go_num, HB9, HS9, Lib.hid HR9.out.1, Lib.hid HR9.out.2⟩
        case measure => simp [intOf]; omega
      · have hp2 : (p == -1) = false := by simp [hp]
        have HN3 := Lib.hid (HNO.out hp)
        clear HNO HYES hp
        go_wp2_with fail
        go_roundw
        case rel => exact ⟨k + 1, T1, by omega, by go_num, HGT2, HS2, Lib.hid HN3.out.1, Lib.hid HN3.out.2⟩
        case measure => simp [intOf]; omega
    · obtain rfl : k = n := by omega
      have HEND := Lib.hid (show ∀ j, j < k → T1 j = dnF z k j from fun j hj => by
        obtain ⟨r, h1, h2, h3⟩ := has_top HZ.out j hj
        exact HT1.out j hj ⟨r, by omega, h2, h3⟩)
      have HSW := Lib.hid (show Same (· ≠ gt) W wr from (Same.of_below HWY.out fun _ h _ => h).trans HSY.out)
      go_wp2_with fail
      refine bodyPost_end (results_none rfl _ _ _) rfl ⟨⟨_, rfl⟩, T1, HGT.out, HSW.out, HEND.out⟩
end Go.Proofs.Ytipnaeijbbbdoaa
