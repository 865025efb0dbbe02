/- The document's Gap says what the program's says. -/
import Derived.Test.YthoefcpeagclbaaW31
namespace Go.Proofs.Ythoefcpeagclbaa
open Go.RowKit
set_option maxRecDepth 100000 in
set_option maxHeartbeats 4000000 in
theorem refGap_any (b : Bnch) (x : Ctch) (oa : Option Addr) (cap : Nat) (or : Option Addr) (m cr : Nat) (r : Nat → Spn) (i k : Int) (w : World) (hn : b.n ≤ 1000000) (hT : MarksAt w oa b.n b.t) (hm : m ≤ 1000) (hR : SpnsAt w or m r) :
    Calls Try.prog 20 #[b.val oa cap, x.val, .slice or m cr, .int .i64 i, .int .i64 k] w fun e w' => e = .returned (.tuple #[(gapS (b.testR x m r).1 (b.testR x m r).2 m r i k).val, .int .i64 (gapE (b.testR x m r).2 m i k)]) ∧ Below w.heap.size w w' := by
  have HN := Lib.hid (fun (w' : World) (hb : Below w.heap.size w w') => start_any b x oa cap or m cr r w' hn (hT.mono hb) (by omega) (hR.mono hb))
  have HL := Lib.hid hR
  have hok := testR_ok (b := b) (x := x) (m := m) (r := r)
  clear hT hR
  generalize b.testR x m r = p at *
  obtain ⟨v, e9⟩ := p
  dsimp only at hok ⊢
  have HO := Lib.hid hok
  clear hok
  go_enter Try.func20, Try.ntmps20
  go_wp2_with fail
  have hbw : Below w.heap.size w ((two 26 b oa cap x w).alloc (.cells #[.int .i64 0, .int .i64 0] 24)) := (two_below 26 b oa cap x w).alloc (by simp; omega) _
  have HR := Lib.hid (Box.new (g := w.heap.size + 1 + 1) #[.int .i64 0, .int .i64 0] 24 (two 26 b oa cap x w) (by simp))
  refine (HN.out _ hbw).mono ?_
  rintro e w1 ⟨rfl, hb1⟩
  have hbw1 := hbw.trans (hb1.mono hbw.size)
  have HR1 := Lib.hid (HR.out.below hb1)
  clear hb1 hbw HR
  go_upto_region 2 with fail
  have T8 := (Box.new #[.int .i64 v.lo, .int .i64 v.hi] 24 w1 rfl)
  have HR2 := Lib.hid (HR1.out.old (.cells #[.int .i64 v.lo, .int .i64 v.hi] 24))
  have hbw2 := hbw1.alloc hbw1.size (.cells #[.int .i64 v.lo, .int .i64 v.hi] 24)
  have hr1 := HR1.out.lt
  obtain ⟨g, hg⟩ : ∃ N, N = w1.heap.size := ⟨_, rfl⟩
  obtain ⟨w2, hw2⟩ : ∃ X, X = w1.alloc (.cells #[.int .i64 v.lo, .int .i64 v.hi] 24) := ⟨_, rfl⟩
  rw [← hw2] at T8 hbw2 HR2 ⊢
  rw [← hg] at T8 hr1 ⊢
  clear hw2 hg hbw1 HR1
  have t0 := T8.cell 0 rfl
  have t1 := T8.cell 1 rfl
  have tl := T8.lt
  have r0 := HR2.out.cell 0 rfl
  have r1 := HR2.out.cell 1 rfl
  have r2 := HR2.out.frozen 0
  have r3 := HR2.out.frozen 1
  have rl := HR2.out.lt
  clear T8 HR2
  by_cases he : e9 = 0
  · subst he
    have W0 : IntKind.i64.wrap ((m : Int) - 1) = (m : Int) - 1 := IntWalk.i64_in _ (by omega)
    go_wp2_with fail
    refine (in_any _ 0 _ _).mono ?_
    rintro e w4 ⟨rfl, h9⟩
    rw [← h9]
    clear h9
    by_cases a1 : withinB i 0 ((m : Int) - 1) = true
    · rw [a1]
      go_wp2_with fail
      refine (in_any _ 0 _ _).mono ?_
      rintro e w4 ⟨rfl, h9⟩
      rw [← h9]
      clear h9
      by_cases a2 : withinB k 0 ((m : Int) - 1) = true
      · rw [a2]
        by_cases a3 : i = k
        · have hin : gapIn m i k = false := by simp [gapIn, a3]
          have a4 : (i == k) = true := by simpa using a3
          have HPE := Lib.hid (gapE_no hin)
          have HPS := Lib.hid (gapS_no (v := v) (r := r) hin)
          go_wp2_with fail
          have pq := put2 r0 r1 (.int .i64 0) (.int .i64 0)
          refine bodyPost_ret (v := .tuple #[.agg #[.int .i64 0, .int .i64 0], .int .i64 2]) (by simp [results, Try.results20, go_sem, pq.1, pq.2]) rfl ⟨by rw [HPE.out, HPS.out], (by repeat' (first | exact Below.refl _ _ | assumption | apply below_drewN | apply Below.drew | (refine Below.alloc ?_ ?_ _) | (refine Below.setCell ?_ ?_ _) | (simp; done) | (simp; omega) | omega))⟩
        · have hin : gapIn m i k = true := by simp [gapIn, a1, a2, a3]
          have a4 : (i == k) = false := by simpa using a3
          obtain ⟨i0, i1, i2, i3, -⟩   := gapIn_all hin
          obtain ⟨k0, k1, k2, k3, k4⟩ := HO.out (by simp)
          obtain ⟨ni, rfl⟩ : ∃ n : Nat, i = n := ⟨i.toNat, by omega⟩
          obtain ⟨nk, rfl⟩ : ∃ n : Nat, k = n := ⟨k.toNat, by omega⟩
          have HPE := Lib.hid (gapE_yes hin)
          have HPS := Lib.hid (gapS_yes (v := v) (r := r) hin)
          obtain ⟨bb, off, rfl, hlt0, c0, c1⟩ := (HL.out.mono hbw2) ni (by omega)
          obtain ⟨bb', off', e1, hlt1, d0, d1⟩ := (HL.out.mono hbw2) nk (by omega)
          cases e1
          obtain ⟨j0, j1, j2⟩ := k4 ni (by omega)
          obtain ⟨j3, j4, j5⟩ := k4 nk (by omega)
          have W1 : IntKind.i64.wrap ((r ni).lo - (r nk).hi) = gapLo r ni nk := IntWalk.i64_in _ (by omega)
          have W2 : IntKind.i64.wrap ((r ni).hi - (r nk).lo) = gapHi r ni nk := IntWalk.i64_in _ (by omega)
          have B1 : -2000000000 ≤ gapLo r ni nk ∧ gapLo r ni nk ≤ 2000000000 := by simp only [gapLo, Int.toNat_natCast]; omega
          have B2 : -2000000000 ≤ gapHi r ni nk ∧ gapHi r ni nk ≤ 2000000000 := by simp only [gapHi, Int.toNat_natCast]; omega
          generalize gapLo r ni nk = low at *
          generalize gapHi r ni nk = high at *
          have W3 : IntKind.i64.wrap (10000 * low) = 10000 * low := IntWalk.i64_in _ (by omega)
          have W4 : IntKind.i64.wrap (10000 * high) = 10000 * high := IntWalk.i64_in _ (by omega)
          have U1 : 0 < underV v low := by unfold underV; split <;> omega
          have U2 : 0 < underH v high := by unfold underH; split <;> omega
          have HGD := Lib.hid (gapOf_doc v low high)
          clear k4 j0 j1 j2 j3 j4 j5
          go_wp2_with fail
          have hx0 : (0 : Int) ≤ (ni : Int) := by omega
          have hx1 : (0 : Int) ≤ (nk : Int) := by omega
          go_big_quiet (fail)
          have t0q : (w2.drewN nq).cell? ⟨g, 0, none⟩ = some (.int .i64 v.lo) := t0
          have t1q : (w2.drewN nq).cell? ⟨g, 1, none⟩ = some (.int .i64 v.hi) := t1
          have r0q : (w2.drewN nq).cell? ⟨w.heap.size + 1 + 1, 0, none⟩ = some (.int .i64 0) := r0
          have r1q : (w2.drewN nq).cell? ⟨w.heap.size + 1 + 1, 1, none⟩ = some (.int .i64 0) := r1
          have r2q : (w2.drewN nq).frozen? ⟨w.heap.size + 1 + 1, 0, none⟩ = false := r2
          have r3q : (w2.drewN nq).frozen? ⟨w.heap.size + 1 + 1, 1, none⟩ = false := r3
          have tlq : g < (w2.drewN nq).heap.size := tl
          have rlq : w.heap.size + 1 + 1 < (w2.drewN nq).heap.size := rl
          have hbq := below_drewN hbw2 nq
          obtain ⟨w3, hw3⟩ : ∃ X, X = w2.drewN nq := ⟨_, rfl⟩
          rw [← hw3] at t0q t1q r0q r1q r2q r3q tlq rlq hbq ⊢
          clear hw3 t0 t1 r0 r1 r2 r3 tl rl hbw2 c0 c1 d0 d1 hlt0 hlt1 W1 W2
          go_wp2_with fail
          go_big_quiet (fail)
          have t0 : (w3.drewN nq).cell? ⟨g, 0, none⟩ = some (.int .i64 v.lo) := t0q
          have t1 : (w3.drewN nq).cell? ⟨g, 1, none⟩ = some (.int .i64 v.hi) := t1q
          have r0 : (w3.drewN nq).cell? ⟨w.heap.size + 1 + 1, 0, none⟩ = some (.int .i64 0) := r0q
          have r1 : (w3.drewN nq).cell? ⟨w.heap.size + 1 + 1, 1, none⟩ = some (.int .i64 0) := r1q
          have r2 : (w3.drewN nq).frozen? ⟨w.heap.size + 1 + 1, 0, none⟩ = false := r2q
          have r3 : (w3.drewN nq).frozen? ⟨w.heap.size + 1 + 1, 1, none⟩ = false := r3q
          have tl : g < (w3.drewN nq).heap.size := tlq
          have rl : w.heap.size + 1 + 1 < (w3.drewN nq).heap.size := rlq
          have hbw := below_drewN hbq nq
          obtain ⟨w5, hw5⟩ : ∃ X, X = w3.drewN nq := ⟨_, rfl⟩
          rw [← hw5] at t0 t1 r0 r1 r2 r3 tl rl hbw ⊢
          clear hw5 t0q t1q r0q r1q r2q r3q tlq rlq hbq
          have e1 : ∀ h : low < 0, underV v low = v.lo := fun h => if_pos h
          have e2 : ∀ h : ¬ low < 0, underV v low = v.hi := fun h => if_neg h
          have e3 : ∀ h : high < 0, underH v high = v.hi := fun h => if_pos h
          have e4 : ∀ h : ¬ high < 0, underH v high = v.lo := fun h => if_neg h
          have E1 := Lib.hid e1
          have E2 := Lib.hid e2
          have E3 := Lib.hid e3
          have E4 := Lib.hid e4
          clear e1 e2 e3 e4 hr1
          by_cases l1 : low < 0
          · have ld : decide (low < 0) = true := by simpa using l1
            rw [E1.out l1] at U1 HGD
            by_cases l2 : high < 0
            · have ld2 : decide (high < 0) = true := by simpa using l2
              rw [E3.out l2] at U2 HGD
              go_wp2_with fail
              refine (down_tu _ _ _ (by omega) (by omega)).mono ?_
              rintro e w6 ⟨rfl, hb6⟩
              have hb7 := hbw.trans (hb6.mono hbw.size)
              go_wp2_with fail
              refine (up_tu _ _ _ (by omega) (by omega)).mono ?_
              rintro e w7 ⟨rfl, hb8⟩
              have hb9 := hb7.trans (hb8.mono hb7.size)
              have hb5 := hb6.trans (hb8.mono hb6.size)
              have y0 := (hb5.cell (p := ⟨w.heap.size + 1 + 1, 0, none⟩) rl).trans r0
              have y1 := (hb5.cell (p := ⟨w.heap.size + 1 + 1, 1, none⟩) rl).trans r1
              have y2 := (hb5.frozen (p := ⟨w.heap.size + 1 + 1, 0, none⟩) rl).trans r2
              have y3 := (hb5.frozen (p := ⟨w.heap.size + 1 + 1, 1, none⟩) rl).trans r3
              clear hb6 hb7 hb8 r0 r1 r2 r3
              go_wp2_with fail
              have pq := put2 y0 y1 (.int .i64 (gapOf v low high).lo) (.int .i64 (gapOf v low high).hi)
              simp only [HGD.out] at pq
              rw [HGD.out] at HPS
              refine bodyPost_ret (v := .tuple #[(Spn.val (gapS v 0 m r ni nk)), .int .i64 0]) (by simp [results, Try.results20, go_sem, pq.1, pq.2, HPS.out]) rfl ⟨by rw [HPE.out], (by repeat' (first | exact Below.refl _ _ | assumption | apply below_drewN | apply Below.drew | (refine Below.alloc ?_ ?_ _) | (refine Below.setCell ?_ ?_ _) | (simp; done) | (simp; omega) | omega))⟩
            · have ld2 : decide (high < 0) = false := by simpa using l2
              rw [E4.out l2] at U2 HGD
              go_wp2_with fail
              refine (down_tu _ _ _ (by omega) (by omega)).mono ?_
              rintro e w6 ⟨rfl, hb6⟩
              have hb7 := hbw.trans (hb6.mono hbw.size)
              go_wp2_with fail
              refine (up_tu _ _ _ (by omega) (by omega)).mono ?_
              rintro e w7 ⟨rfl, hb8⟩
              have hb9 := hb7.trans (hb8.mono hb7.size)
              have hb5 := hb6.trans (hb8.mono hb6.size)
              have y0 := (hb5.cell (p := ⟨w.heap.size + 1 + 1, 0, none⟩) rl).trans r0
              have y1 := (hb5.cell (p := ⟨w.heap.size + 1 + 1, 1, none⟩) rl).trans r1
              have y2 := (hb5.frozen (p := ⟨w.heap.size + 1 + 1, 0, none⟩) rl).trans r2
              have y3 := (hb5.frozen (p := ⟨w.heap.size + 1 + 1, 1, none⟩) rl).trans r3
              clear hb6 hb7 hb8 r0 r1 r2 r3
              go_wp2_with fail
              have pq := put2 y0 y1 (.int .i64 (gapOf v low high).lo) (.int .i64 (gapOf v low high).hi)
              simp only [HGD.out] at pq
              rw [HGD.out] at HPS
              refine bodyPost_ret (v := .tuple #[(Spn.val (gapS v 0 m r ni nk)), .int .i64 0]) (by simp [results, Try.results20, go_sem, pq.1, pq.2, HPS.out]) rfl ⟨by rw [HPE.out], (by repeat' (first | exact Below.refl _ _ | assumption | apply below_drewN | apply Below.drew | (refine Below.alloc ?_ ?_ _) | (refine Below.setCell ?_ ?_ _) | (simp; done) | (simp; omega) | omega))⟩
          · have ld : decide (low < 0) = false := by simpa using l1
            rw [E2.out l1] at U1 HGD
            by_cases l2 : high < 0
            · have ld2 : decide (high < 0) = true := by simpa using l2
              rw [E3.out l2] at U2 HGD
              go_wp2_with fail
              refine (down_tu _ _ _ (by omega) (by omega)).mono ?_
              rintro e w6 ⟨rfl, hb6⟩
              have hb7 := hbw.trans (hb6.mono hbw.size)
              go_wp2_with fail
              refine (up_tu _ _ _ (by omega) (by omega)).mono ?_
              rintro e w7 ⟨rfl, hb8⟩
              have hb9 := hb7.trans (hb8.mono hb7.size)
              have hb5 := hb6.trans (hb8.mono hb6.size)
              have y0 := (hb5.cell (p := ⟨w.heap.size + 1 + 1, 0, none⟩) rl).trans r0
              have y1 := (hb5.cell (p := ⟨w.heap.size + 1 + 1, 1, none⟩) rl).trans r1
              have y2 := (hb5.frozen (p := ⟨w.heap.size + 1 + 1, 0, none⟩) rl).trans r2
              have y3 := (hb5.frozen (p := ⟨w.heap.size + 1 + 1, 1, none⟩) rl).trans r3
              clear hb6 hb7 hb8 r0 r1 r2 r3
              go_wp2_with fail
              have pq := put2 y0 y1 (.int .i64 (gapOf v low high).lo) (.int .i64 (gapOf v low high).hi)
              simp only [HGD.out] at pq
              rw [HGD.out] at HPS
              refine bodyPost_ret (v := .tuple #[(Spn.val (gapS v 0 m r ni nk)), .int .i64 0]) (by simp [results, Try.results20, go_sem, pq.1, pq.2, HPS.out]) rfl ⟨by rw [HPE.out], (by repeat' (first | exact Below.refl _ _ | assumption | apply below_drewN | apply Below.drew | (refine Below.alloc ?_ ?_ _) | (refine Below.setCell ?_ ?_ _) | (simp; done) | (simp; omega) | omega))⟩
            · have ld2 : decide (high < 0) = false := by simpa using l2
              rw [E4.out l2] at U2 HGD
              go_wp2_with fail
              refine (down_tu _ _ _ (by omega) (by omega)).mono ?_
              rintro e w6 ⟨rfl, hb6⟩
              have hb7 := hbw.trans (hb6.mono hbw.size)
              go_wp2_with fail
              refine (up_tu _ _ _ (by omega) (by omega)).mono ?_
              rintro e w7 ⟨rfl, hb8⟩
              have hb9 := hb7.trans (hb8.mono hb7.size)
              have hb5 := hb6.trans (hb8.mono hb6.size)
              have y0 := (hb5.cell (p := ⟨w.heap.size + 1 + 1, 0, none⟩) rl).trans r0
              have y1 := (hb5.cell (p := ⟨w.heap.size + 1 + 1, 1, none⟩) rl).trans r1
              have y2 := (hb5.frozen (p := ⟨w.heap.size + 1 + 1, 0, none⟩) rl).trans r2
              have y3 := (hb5.frozen (p := ⟨w.heap.size + 1 + 1, 1, none⟩) rl).trans r3
              clear hb6 hb7 hb8 r0 r1 r2 r3
              go_wp2_with fail
              have pq := put2 y0 y1 (.int .i64 (gapOf v low high).lo) (.int .i64 (gapOf v low high).hi)
              simp only [HGD.out] at pq
              rw [HGD.out] at HPS
              refine bodyPost_ret (v := .tuple #[(Spn.val (gapS v 0 m r ni nk)), .int .i64 0]) (by simp [results, Try.results20, go_sem, pq.1, pq.2, HPS.out]) rfl ⟨by rw [HPE.out], (by repeat' (first | exact Below.refl _ _ | assumption | apply below_drewN | apply Below.drew | (refine Below.alloc ?_ ?_ _) | (refine Below.setCell ?_ ?_ _) | (simp; done) | (simp; omega) | omega))⟩
      · have hin : gapIn m i k = false := by simp [gapIn, a2]
        replace a2 : withinB k 0 ((m : Int) - 1) = false := by simpa using a2
        rw [a2]
        have HPE := Lib.hid (gapE_no hin)
        have HPS := Lib.hid (gapS_no (v := v) (r := r) hin)
        go_wp2_with fail
        have pq := put2 r0 r1 (.int .i64 0) (.int .i64 0)
        refine bodyPost_ret (v := .tuple #[.agg #[.int .i64 0, .int .i64 0], .int .i64 2]) (by simp [results, Try.results20, go_sem, pq.1, pq.2]) rfl ⟨by rw [HPE.out, HPS.out], (by repeat' (first | exact Below.refl _ _ | assumption | apply below_drewN | apply Below.drew | (refine Below.alloc ?_ ?_ _) | (refine Below.setCell ?_ ?_ _) | (simp; done) | (simp; omega) | omega))⟩
    · have hin : gapIn m i k = false := by simp [gapIn, a1]
      replace a1 : withinB i 0 ((m : Int) - 1) = false := by simpa using a1
      rw [a1]
      have HPE := Lib.hid (gapE_no hin)
      have HPS := Lib.hid (gapS_no (v := v) (r := r) hin)
      go_wp2_with fail
      have pq := put2 r0 r1 (.int .i64 0) (.int .i64 0)
      refine bodyPost_ret (v := .tuple #[.agg #[.int .i64 0, .int .i64 0], .int .i64 2]) (by simp [results, Try.results20, go_sem, pq.1, pq.2]) rfl ⟨by rw [HPE.out, HPS.out], (by repeat' (first | exact Below.refl _ _ | assumption | apply below_drewN | apply Below.drew | (refine Below.alloc ?_ ?_ _) | (refine Below.setCell ?_ ?_ _) | (simp; done) | (simp; omega) | omega))⟩
  · have hne : (e9 != 0) = true := by simpa using he
    have HPE := Lib.hid (gapE_ne (m := m) (i := i) (k := k) he)
    have HPS := Lib.hid (gapS_ne (v := v) (m := m) (r := r) (i := i) (k := k) he)
    go_wp2_with fail
    have pq := put2 r0 r1 (.int .i64 0) (.int .i64 0)
    refine bodyPost_ret (v := .tuple #[.agg #[.int .i64 0, .int .i64 0], .int .i64 e9]) (by simp [results, Try.results20, go_sem, pq.1, pq.2]) rfl ⟨by rw [HPE.out, HPS.out], (by repeat' (first | exact Below.refl _ _ | assumption | apply below_drewN | apply Below.drew | (refine Below.alloc ?_ ?_ _) | (refine Below.setCell ?_ ?_ _) | (simp; done) | (simp; omega) | omega))⟩
end Go.Proofs.Ythoefcpeagclbaa
