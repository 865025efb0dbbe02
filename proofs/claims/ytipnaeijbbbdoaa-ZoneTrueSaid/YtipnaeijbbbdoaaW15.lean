/- Zone: which lists of zones the document takes. -/
import Derived.Test.YtipnaeijbbbdoaaW14
namespace Go.Proofs.Ytipnaeijbbbdoaa
open Go.RowKit
set_option maxRecDepth 100000 in
set_option maxHeartbeats 16000000 in
theorem zones_any (oa : Option Addr) (n ca : Nat) (z : Nat → Zon) (w : World) (hn : n ≤ 1000000) (hA : ZonsAt w oa n z) :
    Calls Try.prog 23 #[.slice oa n ca] w fun e w' => e = .returned (.bool (listB n z)) ∧ Below w.heap.size w w' := by
  have HA := Lib.hid hA
  have HNO := Lib.hid (fun (k : Nat) (hk : k < n) (h : zonB (z k) k = false) => listB_no hk h)
  have HYES := Lib.hid (fun (h : ∀ i, i < n → zonB (z i) i = true) => listB_yes h)
  obtain ⟨res, hres⟩ : ∃ r, r = listB n z := ⟨_, rfl⟩
  rw [← hres] at HNO HYES ⊢
  clear hA
  go_enter Try.func23, Try.ntmps23
  go_wp2_with fail
  refine (in_any (n : Int) 1 12 _).mono ?_
  rintro e w0 ⟨rfl, rfl⟩
  have HWB := Lib.hid (fun (h : withinB (n : Int) 1 12 = false) => show listB n z = false by unfold listB; rw [h]; simp)
  cases hwb : withinB (n : Int) 1 12
  · have HX := Lib.hid (show res = false by rw [hres]; exact HWB.out hwb)
    clear hwb HWB hres HNO HYES
    go_wp2_with fail
    go_ret
    exact ⟨by rw [HX.out]; rfl, Below.refl _ _⟩
  replace HYES := Lib.hid (show (∀ i, i < n → zonB (z i) i = true) → res = true from fun h => by rw [HYES.out h]; exact hwb)
  clear hwb HWB hres
  go_wp2_with fail
  go_loopw [3] (fun v3 wr => ∃ k : Nat, k ≤ n ∧ v3 = .int .i64 k ∧ Hid (Below w.heap.size w wr) ∧ Hid (∀ i, i < k → zonB (z i) i = true)) (fun i _ => n - (intOf i).toNat)
  case atStart => exact ⟨0, by omega, rfl, Lib.hid (Below.refl _ _), Lib.hid fun i hi => by omega⟩
  case round =>
    obtain ⟨k, hk, rfl, HL, HZ⟩ := hrel
    by_cases hlt : k < n
    · obtain ⟨b, off, rfl, hl, c0, c1, c2, c3, c4, c5, c6, c7, c8⟩ := (HA.out.mono HL.out) k hlt
      have HF := Lib.hid (fun h => HNO.out k hlt (zonB_false h))
      have HT := Lib.hid (fun h1 h2 h3 h4 h5 => show ∀ i, i < k + 1 → zonB (z i) i = true from fun i hi => by
        by_cases h9 : i = k
        · subst h9; exact zonB_true h1 h2 h3 h4 h5
        · exact HZ.out i (by omega))
      obtain ⟨Z, hZ⟩ : ∃ Z, Z = z k := ⟨_, rfl⟩
      rw [← hZ] at c0 c1 c2 c3 c4 c5 c6 c7 c8 HF HT
      clear hZ
      obtain ⟨⟨ilo, ihi⟩, ⟨mlo, mhi⟩, ⟨elo, ehi⟩, ⟨llo, lhi⟩, p⟩ := Z
      simp only at c0 c1 c2 c3 c4 c5 c6 c7 c8
      have hk0 : (0 : Int) ≤ (k : Int) := by omega
      have hk1 : (k : Int) < (n : Int) := by omega
      have S1 := Lib.hid (fun (W : World) => dspanB_any ⟨ilo, ihi⟩ 0 1073741824 W)
      have S2 := Lib.hid (fun (W : World) => dspanB_any ⟨mlo, mhi⟩ 0 1073741824 W)
      have S3 := Lib.hid (fun (W : World) => dspanB_any ⟨llo, lhi⟩ 0 1073741824 W)
      have S4 := Lib.hid (fun (W : World) => dspanB_any ⟨elo, ehi⟩ (-500) 500 W)
      obtain ⟨q1, hq1⟩ : ∃ q, q = spanB ⟨ilo, ihi⟩ 0 1073741824 := ⟨_, rfl⟩
      obtain ⟨q2, hq2⟩ : ∃ q, q = spanB ⟨mlo, mhi⟩ 0 1073741824 := ⟨_, rfl⟩
      obtain ⟨q3, hq3⟩ : ∃ q, q = spanB ⟨llo, lhi⟩ 0 1073741824 := ⟨_, rfl⟩
      obtain ⟨q4, hq4⟩ : ∃ q, q = spanB ⟨elo, ehi⟩ (-500) 500 := ⟨_, rfl⟩
      have HF2 := Lib.hid (show q1 = false ∨ q2 = false ∨ q3 = false ∨ q4 = false ∨ withinB p (-1) ((k : Int) - 1) = false → res = false by rw [hq1, hq2, hq3, hq4]; exact HF.out)
      have HT2 := Lib.hid (show q1 = true → q2 = true → q3 = true → q4 = true → withinB p (-1) ((k : Int) - 1) = true → ∀ i, i < k + 1 → zonB (z i) i = true by rw [hq1, hq2, hq3, hq4]; exact HT.out)
      rw [← hq1] at S1
      rw [← hq2] at S2
      rw [← hq3] at S3
      rw [← hq4] at S4
      clear hq1 hq2 hq3 hq4 HF HT
      go_upto_region 7 with fail
      have hbl := HL.out.alloc HL.out.size (.cells #[.int .i64 ilo, .int .i64 ihi, .int .i64 mlo, .int .i64 mhi, .int .i64 elo, .int .i64 ehi, .int .i64 llo, .int .i64 lhi, .int .i64 p] 48)
      have hbx := Box.new (g := wr.heap.size) #[.int .i64 ilo, .int .i64 ihi, .int .i64 mlo, .int .i64 mhi, .int .i64 elo, .int .i64 ehi, .int .i64 llo, .int .i64 lhi, .int .i64 p] 48 wr rfl
      obtain ⟨gz, hG⟩ : ∃ G, G = wr.heap.size := ⟨_, rfl⟩
      obtain ⟨w1, hW⟩ : ∃ X, X = wr.alloc (.cells #[.int .i64 ilo, .int .i64 ihi, .int .i64 mlo, .int .i64 mhi, .int .i64 elo, .int .i64 ehi, .int .i64 llo, .int .i64 lhi, .int .i64 p] 48) := ⟨_, rfl⟩
      rw [← hW] at hbl hbx ⊢
      rw [← hG] at hbx ⊢
      have HL1 := Lib.hid hbl
      have HB1 := Lib.hid hbx
      clear hG hW hbl hbx c0 c1 c2 c3 c4 c5 c6 c7 c8 hl HL
      have d0 := HB1.out.cell 0 (v := .int .i64 ilo) rfl
      have d1 := HB1.out.cell 1 (v := .int .i64 ihi) rfl
      have d2 := HB1.out.cell 2 (v := .int .i64 mlo) rfl
      have d3 := HB1.out.cell 3 (v := .int .i64 mhi) rfl
      have d4 := HB1.out.cell 4 (v := .int .i64 elo) rfl
      have d5 := HB1.out.cell 5 (v := .int .i64 ehi) rfl
      have d6 := HB1.out.cell 6 (v := .int .i64 llo) rfl
      have d7 := HB1.out.cell 7 (v := .int .i64 lhi) rfl
      have d8 := HB1.out.cell 8 (v := .int .i64 p) rfl
      have d9 := HB1.out.lt
      go_wp2_with fail
      refine (S1.out _).mono ?_
      rintro e w2 ⟨rfl, hb⟩
      replace HL1 := Lib.hid (HL1.out.trans (hb.mono HL1.out.size))
      replace HB1 := Lib.hid (HB1.out.below hb)
      clear hb d0 d1 d2 d3 d4 d5 d6 d7 d8 d9
      obtain ⟨w1, rfl⟩ : ∃ X : World, X = w2 := ⟨_, rfl⟩
      have d0 := HB1.out.cell 0 (v := .int .i64 ilo) rfl
      have d1 := HB1.out.cell 1 (v := .int .i64 ihi) rfl
      have d2 := HB1.out.cell 2 (v := .int .i64 mlo) rfl
      have d3 := HB1.out.cell 3 (v := .int .i64 mhi) rfl
      have d4 := HB1.out.cell 4 (v := .int .i64 elo) rfl
      have d5 := HB1.out.cell 5 (v := .int .i64 ehi) rfl
      have d6 := HB1.out.cell 6 (v := .int .i64 llo) rfl
      have d7 := HB1.out.cell 7 (v := .int .i64 lhi) rfl
      have d8 := HB1.out.cell 8 (v := .int .i64 p) rfl
      have d9 := HB1.out.lt
      cases q1
      case false =>
        have HX := Lib.hid (HF2.out (by simp))
        go_wp2_with fail
        go_ret
        exact ⟨by rw [HX.out]; rfl, HL1.out⟩
      go_wp2_with fail
      refine (S2.out _).mono ?_
      rintro e w2 ⟨rfl, hb⟩
      replace HL1 := Lib.hid (HL1.out.trans (hb.mono HL1.out.size))
      replace HB1 := Lib.hid (HB1.out.below hb)
      clear hb d0 d1 d2 d3 d4 d5 d6 d7 d8 d9
      obtain ⟨w1, rfl⟩ : ∃ X : World, X = w2 := ⟨_, rfl⟩
      have d0 := HB1.out.cell 0 (v := .int .i64 ilo) rfl
      have d1 := HB1.out.cell 1 (v := .int .i64 ihi) rfl
      have d2 := HB1.out.cell 2 (v := .int .i64 mlo) rfl
      have d3 := HB1.out.cell 3 (v := .int .i64 mhi) rfl
      have d4 := HB1.out.cell 4 (v := .int .i64 elo) rfl
      have d5 := HB1.out.cell 5 (v := .int .i64 ehi) rfl
      have d6 := HB1.out.cell 6 (v := .int .i64 llo) rfl
      have d7 := HB1.out.cell 7 (v := .int .i64 lhi) rfl
      have d8 := HB1.out.cell 8 (v := .int .i64 p) rfl
      have d9 := HB1.out.lt
      cases q2
      case false =>
        have HX := Lib.hid (HF2.out (by simp))
        go_wp2_with fail
        go_ret
        exact ⟨by rw [HX.out]; rfl, HL1.out⟩
      go_wp2_with fail
      refine (S4.out _).mono ?_
      rintro e w2 ⟨rfl, hb⟩
      replace HL1 := Lib.hid (HL1.out.trans (hb.mono HL1.out.size))
      replace HB1 := Lib.hid (HB1.out.below hb)
      clear hb d0 d1 d2 d3 d4 d5 d6 d7 d8 d9
      obtain ⟨w1, rfl⟩ : ∃ X : World, X = w2 := ⟨_, rfl⟩
      have d0 := HB1.out.cell 0 (v := .int .i64 ilo) rfl
      have d1 := HB1.out.cell 1 (v := .int .i64 ihi) rfl
      have d2 := HB1.out.cell 2 (v := .int .i64 mlo) rfl
      have d3 := HB1.out.cell 3 (v := .int .i64 mhi) rfl
      have d4 := HB1.out.cell 4 (v := .int .i64 elo) rfl
      have d5 := HB1.out.cell 5 (v := .int .i64 ehi) rfl
      have d6 := HB1.out.cell 6 (v := .int .i64 llo) rfl
      have d7 := HB1.out.cell 7 (v := .int .i64 lhi) rfl
      have d8 := HB1.out.cell 8 (v := .int .i64 p) rfl
      have d9 := HB1.out.lt
      cases q4
      case false =>
        have HX := Lib.hid (HF2.out (by simp))
        go_wp2_with fail
        go_ret
        exact ⟨by rw [HX.out]; rfl, HL1.out⟩
      go_wp2_with fail
      refine (S3.out _).mono ?_
      rintro e w2 ⟨rfl, hb⟩
      replace HL1 := Lib.hid (HL1.out.trans (hb.mono HL1.out.size))
      replace HB1 := Lib.hid (HB1.out.below hb)
      clear hb d0 d1 d2 d3 d4 d5 d6 d7 d8 d9
      obtain ⟨w1, rfl⟩ : ∃ X : World, X = w2 := ⟨_, rfl⟩
      have d0 := HB1.out.cell 0 (v := .int .i64 ilo) rfl
      have d1 := HB1.out.cell 1 (v := .int .i64 ihi) rfl
      have d2 := HB1.out.cell 2 (v := .int .i64 mlo) rfl
      have d3 := HB1.out.cell 3 (v := .int .i64 mhi) rfl
      have d4 := HB1.out.cell 4 (v := .int .i64 elo) rfl
      have d5 := HB1.out.cell 5 (v := .int .i64 ehi) rfl
      have d6 := HB1.out.cell 6 (v := .int .i64 llo) rfl
      have d7 := HB1.out.cell 7 (v := .int .i64 lhi) rfl
      have d8 := HB1.out.cell 8 (v := .int .i64 p) rfl
      have d9 := HB1.out.lt
      cases q3
      case false =>
        have HX := Lib.hid (HF2.out (by simp))
        go_wp2_with fail
        go_ret
        exact ⟨by rw [HX.out]; rfl, HL1.out⟩
      go_wp2_with fail
      refine (in_any _ _ _ _).mono ?_
      rintro e w2 ⟨rfl, rfl⟩
      cases hq5 : withinB p (-1) ((k : Int) - 1)
      · have HX := Lib.hid (HF2.out (.inr (.inr (.inr (.inr hq5)))))
        clear hq5
        go_wp2_with fail
        go_ret
        exact ⟨by rw [HX.out]; rfl, HL1.out⟩
      · have HZ2 := Lib.hid (HT2.out (by simp) (by simp) (by simp) (by simp) hq5)
        clear hq5 d0 d1 d2 d3 d4 d5 d6 d7 d8 d9
        go_wp2_with fail
        go_roundw
        case rel => exact ⟨k + 1, by omega, by go_num, HL1, HZ2⟩
        case measure => simp [intOf]; omega
    · obtain rfl : k = n := by omega
      have HX := Lib.hid (HYES.out HZ.out)
      clear HNO HYES
      go_wp2_with fail
      go_ret
      exact ⟨by rw [HX.out]; rfl, HL.out⟩
end Go.Proofs.Ytipnaeijbbbdoaa
