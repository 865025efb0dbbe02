/- The walk of BenchRows. -/
import Derived.Test.YthoefcpeagclbaaL3
namespace Go.Proofs.Ythoefcpeagclbaa
open Go.RowKit
theorem sameS_refl (n : Nat) (f : Nat → Spn) : sameS n n f f = true := by simp [sameS, allB]
theorem sameI_pass (n : Nat) (v : Spn) (r : Nat → Spn) (most : Int) : sameI n n (fun i => passR v (r i) most) (fun i => passD v (r i) most) = true := by simp [sameI, allB, passD_eq]
set_option maxRecDepth 100000 in
set_option maxHeartbeats 4000000 in
theorem rows_of (b : Bnch) (x : Ctch) (oa : Option Addr) (cap : Nat) (or : Option Addr) (m cr : Nat) (r : Nat → Spn) (most i k : Int) (w : World) (hcap : b.n ≤ cap) (hT : MarksAt w oa b.n b.t) (hm : m ≤ 9223372036854775807) (hR : SpnsAt w or m r) :
    Calls Try.prog 4 #[b.val oa cap, x.val, .slice or m cr, .int .i64 most, .int .i64 i, .int .i64 k] w (TrueEnd w) := by
  have HT := Lib.hid hT
  have HR := Lib.hid hR
  have HM := Lib.hid hm
  clear hT hR hm
  go_enter Try.func4, Try.ntmps4
  go_wp2_with fail
  have HB := Lib.hid (two_bench 26 b oa cap x w)
  have HC := Lib.hid (two_catch 26 b oa cap x w)
  have hbw := two_below 26 b oa cap x w
  obtain ⟨W, hW⟩ : ∃ X, X = two 26 b oa cap x w := ⟨_, rfl⟩
  rw [← hW] at HB HC hbw
  have hW' := hW
  simp only [two] at hW'
  rw [← hW']
  clear hW hW'
  refine (large_any b oa cap or m cr r 3000 _ (HR.out.mono hbw) HM.out).mono ?_
  rintro e w1 ⟨rfl, hb1⟩
  have hbw1 := hbw.trans (hb1.mono hbw.size)
  rcases hl : largeR b m r 3000
  case true =>
    clear hl
    go_wp2_with fail
    refine (awake_any _).mono ?_
    rintro e wz ⟨rfl, hbz⟩
    go_wp2
    go_ret
    exact ⟨rfl, hbw1.trans (hbz.mono hbw1.size)⟩
  case false =>
    have hn := (large_no hl).1
    have hm := (large_no hl).2.1
    clear hl
    have HB1 := Lib.hid (HB.out.below hb1)
    have HC1 := Lib.hid (HC.out.below hb1)
    clear HB HC hbw hb1
    obtain ⟨b0, b1, b2, b3, b4, b5, b6, b7⟩ := BB.cells (b := b) HB1.out
    obtain ⟨c0, c1, c2, c3, c4, c5, c6⟩ := CB.cells (x := x) HC1.out
    go_wp2_with fail
    refine (Errors_any b x oa cap or m cr r _ (by omega) hcap (HT.out.mono hbw1) (by omega) (HR.out.mono hbw1)).mono ?_
    rintro e w2 ⟨o1, p1, rfl, hS1, hb2⟩
    have HS1 := Lib.hid hS1
    have HB2 := Lib.hid (HB1.out.below hb2)
    have HC2 := Lib.hid (HC1.out.below hb2)
    have hbw2 := hbw1.trans (hb2.mono hbw1.size)
    clear b0 b1 b2 b3 b4 b5 b6 b7 c0 c1 c2 c3 c4 c5 c6
    clear HB1 HC1 hbw1 hb2 hS1
    obtain ⟨b0, b1, b2, b3, b4, b5, b6, b7⟩ := BB.cells (b := b) HB2.out
    obtain ⟨c0, c1, c2, c3, c4, c5, c6⟩ := CB.cells (x := x) HC2.out
    go_wp2_with fail
    refine (refErrors_any b x oa cap or m cr r _ (by omega) (HT.out.mono hbw2) (by omega) (HR.out.mono hbw2)).mono ?_
    rintro e w3 ⟨o2, p2, rfl, hS2, hb3⟩
    have HS2 := Lib.hid hS2
    have HS1b := Lib.hid (HS1.out.mono hb3)
    have HB3 := Lib.hid (HB2.out.below hb3)
    have HC3 := Lib.hid (HC2.out.below hb3)
    have hbw3 := hbw2.trans (hb3.mono hbw2.size)
    clear b0 b1 b2 b3 b4 b5 b6 b7 c0 c1 c2 c3 c4 c5 c6
    clear HB2 HC2 hbw2 hb3 hS2 HS1
    obtain ⟨b0, b1, b2, b3, b4, b5, b6, b7⟩ := BB.cells (b := b) HB3.out
    obtain ⟨c0, c1, c2, c3, c4, c5, c6⟩ := CB.cells (x := x) HC3.out
    go_wp2_with fail
    refine (Passed_any b x oa cap or m cr r most _ (by omega) hcap (HT.out.mono hbw3) (by omega) (HR.out.mono hbw3)).mono ?_
    rintro e w4 ⟨o3, p3, rfl, hS3, hb4⟩
    have HS3 := Lib.hid hS3
    have HS1 := Lib.hid (HS1b.out.mono hb4)
    have HS2b := Lib.hid (HS2.out.mono hb4)
    have HB4 := Lib.hid (HB3.out.below hb4)
    have HC4 := Lib.hid (HC3.out.below hb4)
    have hbw4 := hbw3.trans (hb4.mono hbw3.size)
    clear b0 b1 b2 b3 b4 b5 b6 b7 c0 c1 c2 c3 c4 c5 c6
    clear HB3 HC3 hbw3 hb4 hS3 HS1b HS2
    obtain ⟨b0, b1, b2, b3, b4, b5, b6, b7⟩ := BB.cells (b := b) HB4.out
    obtain ⟨c0, c1, c2, c3, c4, c5, c6⟩ := CB.cells (x := x) HC4.out
    go_wp2_with fail
    refine (refPassed_any b x oa cap or m cr r most _ (by omega) (HT.out.mono hbw4) (by omega) (HR.out.mono hbw4)).mono ?_
    rintro e w5 ⟨o4, p4, rfl, hS4, hb5⟩
    have HS4 := Lib.hid hS4
    have HS1b := Lib.hid (HS1.out.mono hb5)
    have HS2 := Lib.hid (HS2b.out.mono hb5)
    have HS3b := Lib.hid (HS3.out.mono hb5)
    have HB5 := Lib.hid (HB4.out.below hb5)
    have HC5 := Lib.hid (HC4.out.below hb5)
    have hbw5 := hbw4.trans (hb5.mono hbw4.size)
    clear b0 b1 b2 b3 b4 b5 b6 b7 c0 c1 c2 c3 c4 c5 c6
    clear HB4 HC4 hbw4 hb5 hS4 HS1 HS2b HS3
    obtain ⟨b0, b1, b2, b3, b4, b5, b6, b7⟩ := BB.cells (b := b) HB5.out
    obtain ⟨c0, c1, c2, c3, c4, c5, c6⟩ := CB.cells (x := x) HC5.out
    go_wp2_with fail
    refine (Gap_any b x oa cap or m cr r i k _ (by omega) hcap (HT.out.mono hbw5) (by omega) (HR.out.mono hbw5)).mono ?_
    rintro e w6 ⟨rfl, hb6⟩
    obtain ⟨gs, hgs⟩ : ∃ y, y = gapS (b.testR x m r).1 (b.testR x m r).2 m r i k := ⟨_, rfl⟩
    obtain ⟨ge, hge⟩ : ∃ y, y = gapE (b.testR x m r).2 m i k := ⟨_, rfl⟩
    rw [← hgs, ← hge]
    have HGS := Lib.hid hgs
    have HGE := Lib.hid hge
    have hbE := hb6.alloc hb6.size (.cells #[.int .i64 gs.lo, .int .i64 gs.hi] 24)
    have T21 : SB gs 24 w6.heap.size (w6.alloc (.cells #[.int .i64 gs.lo, .int .i64 gs.hi] 24)) := Box.new _ _ w6 rfl
    have HS1 := Lib.hid (HS1b.out.mono hbE)
    have HS2b := Lib.hid (HS2.out.mono hbE)
    have HS3 := Lib.hid (HS3b.out.mono hbE)
    have HS4b := Lib.hid (HS4.out.mono hbE)
    have HB6 := Lib.hid (HB5.out.below hbE)
    have HC6 := Lib.hid (HC5.out.below hbE)
    have hbw6 := hbw5.trans (hbE.mono hbw5.size)
    clear b0 b1 b2 b3 b4 b5 b6 b7 c0 c1 c2 c3 c4 c5 c6
    clear HB5 HC5 hbw5 hb6 hbE HS1b HS2 HS3b HS4 hgs hge
    go_upto_region 8 with fail
    obtain ⟨g21, hg⟩ : ∃ n, n = w6.heap.size := ⟨_, rfl⟩
    obtain ⟨W6, hW⟩ : ∃ X, X = w6.alloc (.cells #[.int .i64 gs.lo, .int .i64 gs.hi] 24) := ⟨_, rfl⟩
    rw [← hW] at T21 HS1 HS2b HS3 HS4b HB6 HC6 hbw6 ⊢
    rw [← hg] at T21 ⊢
    clear hW hg
    have K21 := Lib.hid T21
    clear T21
    obtain ⟨b0, b1, b2, b3, b4, b5, b6, b7⟩ := BB.cells (b := b) HB6.out
    obtain ⟨c0, c1, c2, c3, c4, c5, c6⟩ := CB.cells (x := x) HC6.out
    go_wp2_with fail
    refine (refGap_any b x oa cap or m cr r i k _ (by omega) (HT.out.mono hbw6) (by omega) (HR.out.mono hbw6)).mono ?_
    rintro e w7 ⟨rfl, hb7⟩
    rw [← HGS.out, ← HGE.out]
    have hbE := hb7.alloc hb7.size (.cells #[.int .i64 gs.lo, .int .i64 gs.hi] 24)
    have T23 : SB gs 24 w7.heap.size (w7.alloc (.cells #[.int .i64 gs.lo, .int .i64 gs.hi] 24)) := Box.new _ _ w7 rfl
    have HS1b := Lib.hid (HS1.out.mono hbE)
    have HS2 := Lib.hid (HS2b.out.mono hbE)
    have HS3b := Lib.hid (HS3.out.mono hbE)
    have HS4 := Lib.hid (HS4b.out.mono hbE)
    have K21b := Lib.hid (K21.out.below hbE)
    have hbw7 := hbw6.trans (hbE.mono hbw6.size)
    clear b0 b1 b2 b3 b4 b5 b6 b7 c0 c1 c2 c3 c4 c5 c6
    clear HB6 HC6 hbw6 hb7 hbE HS1 HS2b HS3 HS4b K21 HGS HGE
    go_upto_region 9 with fail
    obtain ⟨g23, hg⟩ : ∃ n, n = w7.heap.size := ⟨_, rfl⟩
    obtain ⟨W7, hW⟩ : ∃ X, X = w7.alloc (.cells #[.int .i64 gs.lo, .int .i64 gs.hi] 24) := ⟨_, rfl⟩
    rw [← hW] at T23 HS1b HS2 HS3b HS4 K21b hbw7 ⊢
    rw [← hg] at T23 ⊢
    clear hW hg
    have K23 := Lib.hid T23
    clear T23
    have HCE := Lib.hid (show cnt (b.testR x m r).2 m ≤ 1000000 by unfold cnt; split <;> omega)
    have HCP := Lib.hid (show cnt (passE (b.testR x m r).2 most) m ≤ 1000000 by unfold cnt; split <;> omega)
    generalize cnt (b.testR x m r).2 m = ce at HS1b HS2 HCE ⊢
    generalize cnt (passE (b.testR x m r).2 most) m = cp at HS3b HS4 HCP ⊢
    generalize passE (b.testR x m r).2 most = pe
    generalize (b.testR x m r).2 = e9
    generalize (b.testR x m r).1 = v9 at HS1b HS2 HS3b HS4
    go_wp2_with fail
    refine (Spans_any o1 o2 ce ce p1 p2 _ _ _ HCE.out HCE.out HS1b.out HS2.out).mono ?_
    rintro e w8 ⟨rfl, hb8⟩
    rw [sameS_refl]
    have HS3 := Lib.hid (HS3b.out.mono hb8)
    have HS4b := Lib.hid (HS4.out.mono hb8)
    have K21 := Lib.hid (K21b.out.below hb8)
    have K23b := Lib.hid (K23.out.below hb8)
    have hbw8 := hbw7.trans (hb8.mono hbw7.size)
    clear HS1b HS2 HS3b HS4 K21b K23 hbw7 hb8
    go_wp2_with fail
    refine (Ints_any o3 o4 cp cp p3 p4 _ _ _ HCP.out HCP.out HS3.out HS4b.out).mono ?_
    rintro e w9 ⟨rfl, hb9⟩
    rw [sameI_pass]
    have K21b := K21.out.below hb9
    have K23 := K23b.out.below hb9
    have hbw9 := hbw8.trans (hb9.mono hbw8.size)
    have q0 := K21b.cell 0 rfl
    have q1 := K21b.cell 1 rfl
    have q2 := K23.cell 0 rfl
    have q3 := K23.cell 1 rfl
    simp only [List.getElem_toArray, List.getElem_cons_zero, List.getElem_cons_succ] at q0 q1 q2 q3
    clear HS3 HS4b K21 K21b K23 K23b hbw8 hb9
    go_wp2_with fail
    refine (awake_any _).mono ?_
    rintro e wz ⟨rfl, hbz⟩
    go_wp2
    go_ret
    exact ⟨rfl, hbw9.trans (hbz.mono hbw9.size)⟩
end Go.Proofs.Ythoefcpeagclbaa
