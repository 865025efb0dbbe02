/- The walk of BenchWater. -/
import Derived.Test.YthoefcpeagclbaaW39
import Derived.Test.YthoefcpeagclbaaW22
namespace Go.Proofs.Ythoefcpeagclbaa
open Go.RowKit
theorem large_no {b : Bnch} {m : Nat} {r : Nat → Spn} {wide : Int} (h : largeR b m r wide = false) : b.n ≤ 16 ∧ m ≤ 20 ∧ ∀ i, i < m → wideS wide (r i) = false := by
  simp only [largeR, Bool.or_eq_false_iff, decide_eq_false_iff_not] at h
  refine ⟨by omega, by omega, fun i hi => ?_⟩
  cases hw : wideS wide (r i)
  · rfl
  · rw [anyB_iff.2 ⟨i, hi, hw⟩] at h; exact absurd h.1 (by simp)
set_option maxRecDepth 100000 in
set_option maxHeartbeats 4000000 in
theorem water_of (b : Bnch) (x : Ctch) (s : Spn) (oa : Option Addr) (cap : Nat) (w : World) (hcap : b.n ≤ cap) (hT : MarksAt w oa b.n b.t) :
    Calls Try.prog 3 #[b.val oa cap, x.val, s.val] w (TrueEnd w) := by
  have HT := Lib.hid hT
  clear hT
  go_enter Try.func3, Try.ntmps3
  go_wp2_with fail
  have HB := Lib.hid ((two_bench 26 b oa cap x w).old (.cells #[.int .i64 s.lo, .int .i64 s.hi] 24))
  have HC := Lib.hid ((two_catch 26 b oa cap x w).old (.cells #[.int .i64 s.lo, .int .i64 s.hi] 24))
  have HS : SB s 24 (w.heap.size + 1 + 1) ((two 26 b oa cap x w).alloc (.cells #[.int .i64 s.lo, .int .i64 s.hi] 24)) := Box.new _ _ _ (by simp)
  have hbw := (two_below 26 b oa cap x w).alloc (by simp; omega) (.cells #[.int .i64 s.lo, .int .i64 s.hi] 24)
  obtain ⟨W, hW⟩ : ∃ X, X = (two 26 b oa cap x w).alloc (.cells #[.int .i64 s.lo, .int .i64 s.hi] 24) := ⟨_, rfl⟩
  rw [← hW] at HB HC HS hbw
  have hW' := hW
  simp only [two] at hW'
  rw [← hW']
  clear hW hW'
  have KS := Lib.hid HS
  clear HS
  refine (large_any b oa cap none 0 0 (fun _ => ⟨0, 0⟩) 0 _ (fun i hi => by omega) (by omega)).mono ?_
  rintro e w1 ⟨rfl, hb1⟩
  have hbw1 := hbw.trans (hb1.mono hbw.size)
  rcases hl : largeR b 0 (fun _ => ⟨0, 0⟩) 0
  case true =>
    clear hl
    go_wp2_with fail
    refine (awake_any _).mono ?_
    rintro e wz ⟨rfl, hbz⟩
    go_wp2
    go_ret
    exact ⟨rfl, hbw1.trans (hbz.mono hbw1.size)⟩
  case false =>
    have hn := (large_no hl).1
    clear hl
    have HB1 := Lib.hid (HB.out.below hb1)
    have HC1 := Lib.hid (HC.out.below hb1)
    have KS1 := Lib.hid (KS.out.below hb1)
    clear HB HC KS hbw hb1
    obtain ⟨b0, b1, b2, b3, b4, b5, b6, b7⟩ := BB.cells (b := b) HB1.out
    obtain ⟨c0, c1, c2, c3, c4, c5, c6⟩ := CB.cells (x := x) HC1.out
    go_wp2_with fail
    refine (Water_any b x oa cap _ (by omega) hcap (HT.out.mono hbw1)).mono ?_
    rintro e w2 ⟨rfl, hb2⟩
    generalize hv : b.waterR x = v
    have HV := Lib.hid hv
    clear hv
    have hbE := hb2.alloc hb2.size (.cells #[.int .i64 v.1.lo, .int .i64 v.1.hi] 24)
    have T7 : SB v.1 24 w2.heap.size (w2.alloc (.cells #[.int .i64 v.1.lo, .int .i64 v.1.hi] 24)) := Box.new _ _ w2 rfl
    have HB2 := Lib.hid (HB1.out.below hbE)
    have HC2 := Lib.hid (HC1.out.below hbE)
    have KS2 := Lib.hid (KS1.out.below hbE)
    have hbw2 := hbw1.trans (hbE.mono hbw1.size)
    clear b0 b1 b2 b3 b4 b5 b6 b7 c0 c1 c2 c3 c4 c5 c6 HB1 HC1 KS1 hbw1 hb2 hbE
    go_upto_region 4 with fail
    obtain ⟨g7, hg⟩ : ∃ n, n = w2.heap.size := ⟨_, rfl⟩
    obtain ⟨W2, hW⟩ : ∃ X, X = w2.alloc (.cells #[.int .i64 v.1.lo, .int .i64 v.1.hi] 24) := ⟨_, rfl⟩
    rw [← hW] at T7 HB2 HC2 KS2 hbw2 ⊢
    rw [← hg] at T7 ⊢
    clear hW hg
    have K7 := Lib.hid T7
    clear T7
    obtain ⟨b0, b1, b2, b3, b4, b5, b6, b7⟩ := BB.cells (b := b) HB2.out
    obtain ⟨c0, c1, c2, c3, c4, c5, c6⟩ := CB.cells (x := x) HC2.out
    go_wp2_with fail
    refine (refWater_any b x oa cap _ (by omega) (HT.out.mono hbw2)).mono ?_
    rintro e w3 ⟨rfl, hb3⟩
    rw [HV.out]
    have hbE := hb3.alloc hb3.size (.cells #[.int .i64 v.1.lo, .int .i64 v.1.hi] 24)
    have T9 : SB v.1 24 w3.heap.size (w3.alloc (.cells #[.int .i64 v.1.lo, .int .i64 v.1.hi] 24)) := Box.new _ _ w3 rfl
    have HB3 := Lib.hid (HB2.out.below hbE)
    have HC3 := Lib.hid (HC2.out.below hbE)
    have KS3 := Lib.hid (KS2.out.below hbE)
    have K73 := Lib.hid (K7.out.below hbE)
    have hbw3 := hbw2.trans (hbE.mono hbw2.size)
    clear b0 b1 b2 b3 b4 b5 b6 b7 c0 c1 c2 c3 c4 c5 c6 HB2 HC2 KS2 K7 hbw2 hb3 hbE
    go_upto_region 5 with fail
    obtain ⟨g9, hg⟩ : ∃ n, n = w3.heap.size := ⟨_, rfl⟩
    obtain ⟨W3, hW⟩ : ∃ X, X = w3.alloc (.cells #[.int .i64 v.1.lo, .int .i64 v.1.hi] 24) := ⟨_, rfl⟩
    rw [← hW] at T9 HB3 HC3 KS3 K73 hbw3 ⊢
    rw [← hg] at T9 ⊢
    clear hW hg
    have K9 := Lib.hid T9
    clear T9
    obtain ⟨b0, b1, b2, b3, b4, b5, b6, b7⟩ := BB.cells (b := b) HB3.out
    obtain ⟨c0, c1, c2, c3, c4, c5, c6⟩ := CB.cells (x := x) HC3.out
    have s0 := KS3.out.cell 0 rfl
    have s1 := KS3.out.cell 1 rfl
    simp only [List.getElem_toArray, List.getElem_cons_zero, List.getElem_cons_succ] at s0 s1
    go_wp2_with fail
    refine (Flow_any b x s oa cap _ (by omega) hcap (HT.out.mono hbw3)).mono ?_
    rintro e w4 ⟨rfl, hb4⟩
    generalize hf : b.flowR x s = f
    have HF := Lib.hid hf
    clear hf
    have hbE := hb4.alloc hb4.size (.cells #[.int .i64 f.1.lo, .int .i64 f.1.hi] 24)
    have T11 : SB f.1 24 w4.heap.size (w4.alloc (.cells #[.int .i64 f.1.lo, .int .i64 f.1.hi] 24)) := Box.new _ _ w4 rfl
    have HB4 := Lib.hid (HB3.out.below hbE)
    have HC4 := Lib.hid (HC3.out.below hbE)
    have KS4 := Lib.hid (KS3.out.below hbE)
    have K74 := Lib.hid (K73.out.below hbE)
    have K94 := Lib.hid (K9.out.below hbE)
    have hbw4 := hbw3.trans (hbE.mono hbw3.size)
    clear b0 b1 b2 b3 b4 b5 b6 b7 c0 c1 c2 c3 c4 c5 c6 s0 s1 HB3 HC3 KS3 K73 K9 hbw3 hb4 hbE
    go_upto_region 6 with fail
    obtain ⟨g11, hg⟩ : ∃ n, n = w4.heap.size := ⟨_, rfl⟩
    obtain ⟨W4, hW⟩ : ∃ X, X = w4.alloc (.cells #[.int .i64 f.1.lo, .int .i64 f.1.hi] 24) := ⟨_, rfl⟩
    rw [← hW] at T11 HB4 HC4 KS4 K74 K94 hbw4 ⊢
    rw [← hg] at T11 ⊢
    clear hW hg
    have K11 := Lib.hid T11
    clear T11
    obtain ⟨b0, b1, b2, b3, b4, b5, b6, b7⟩ := BB.cells (b := b) HB4.out
    obtain ⟨c0, c1, c2, c3, c4, c5, c6⟩ := CB.cells (x := x) HC4.out
    have s0 := KS4.out.cell 0 rfl
    have s1 := KS4.out.cell 1 rfl
    simp only [List.getElem_toArray, List.getElem_cons_zero, List.getElem_cons_succ] at s0 s1
    go_wp2_with fail
    refine (refFlow_any b x s oa cap _ (by omega) (HT.out.mono hbw4)).mono ?_
    rintro e w5 ⟨rfl, hb5⟩
    rw [HF.out]
    have hbE := hb5.alloc hb5.size (.cells #[.int .i64 f.1.lo, .int .i64 f.1.hi] 24)
    have T13 : SB f.1 24 w5.heap.size (w5.alloc (.cells #[.int .i64 f.1.lo, .int .i64 f.1.hi] 24)) := Box.new _ _ w5 rfl
    have K75 := K74.out.below hbE
    have K95 := K94.out.below hbE
    have K115 := K11.out.below hbE
    have hbw5 := hbw4.trans (hbE.mono hbw4.size)
    clear b0 b1 b2 b3 b4 b5 b6 b7 c0 c1 c2 c3 c4 c5 c6 s0 s1 HB4 HC4 KS4 K74 K94 K11 hbw4 hb5 hbE
    go_upto_region 7 with fail
    obtain ⟨g13, hg⟩ : ∃ n, n = w5.heap.size := ⟨_, rfl⟩
    obtain ⟨W5, hW⟩ : ∃ X, X = w5.alloc (.cells #[.int .i64 f.1.lo, .int .i64 f.1.hi] 24) := ⟨_, rfl⟩
    rw [← hW] at T13 K75 K95 K115 hbw5 ⊢
    rw [← hg] at T13 ⊢
    clear hW hg
    have q0 := K75.cell 0 rfl
    have q1 := K75.cell 1 rfl
    have q2 := K95.cell 0 rfl
    have q3 := K95.cell 1 rfl
    have q4 := K115.cell 0 rfl
    have q5 := K115.cell 1 rfl
    have q6 := T13.cell 0 rfl
    have q7 := T13.cell 1 rfl
    simp only [List.getElem_toArray, List.getElem_cons_zero, List.getElem_cons_succ] at q0 q1 q2 q3 q4 q5 q6 q7
    clear K75 K95 K115 T13 HV HF
    go_wp2_with fail
    refine (awake_any _).mono ?_
    rintro e wz ⟨rfl, hbz⟩
    go_wp2
    go_ret
    exact ⟨rfl, hbw5.trans (hbz.mono hbw5.size)⟩
end Go.Proofs.Ythoefcpeagclbaa
