/- Gap tells by how much two meters differ, or why that is not known. -/
import Derived.Test.YthoefcpeagclbaaW30
import Derived.Test.YthoefcpeagclbaaP3
namespace Go.Proofs.Ythoefcpeagclbaa
open Go.RowKit
set_option maxHeartbeats 400000 in
theorem under_any (n : Int) (v : Spn) (w : World) :
    Calls Try.prog 50 #[.int .i64 n, v.val] w fun e w' => e = .returned (.int .i64 (underV v n)) ∧ Below w.heap.size w w' := by
  unfold underV
  by_cases h : n < 0
  · rw [if_pos h]
    have hd : decide (n < 0) = true := by simpa using h
    go_enter Try.func50, Try.ntmps50
    go_wp2
    all_goals (go_ret; exact ⟨rfl, (by repeat' (first | exact Below.refl _ _ | assumption | apply below_drewN | apply Below.drew | (refine Below.alloc ?_ ?_ _) | (refine Below.setCell ?_ ?_ _) | (simp; done) | (simp; omega) | omega))⟩)
  · rw [if_neg h]
    have hd : decide (n < 0) = false := by simpa using h
    go_enter Try.func50, Try.ntmps50
    go_wp2
    all_goals (go_ret; exact ⟨rfl, (by repeat' (first | exact Below.refl _ _ | assumption | apply below_drewN | apply Below.drew | (refine Below.alloc ?_ ?_ _) | (refine Below.setCell ?_ ?_ _) | (simp; done) | (simp; omega) | omega))⟩)
set_option maxRecDepth 100000 in
set_option maxHeartbeats 4000000 in
theorem Gap_any (b : Bnch) (x : Ctch) (oa : Option Addr) (cap : Nat) (or : Option Addr) (m cr : Nat) (r : Nat → Spn) (i k : Int) (w : World) (hn : b.n ≤ 1000000) (hcap : b.n ≤ cap) (hT : MarksAt w oa b.n b.t) (hm : m ≤ 1000) (hR : SpnsAt w or m r) :
    Calls Try.prog 19 #[b.val oa cap, x.val, .slice or m cr, .int .i64 i, .int .i64 k] w fun e w' => e = .returned (.tuple #[(gapS (b.testR x m r).1 (b.testR x m r).2 m r i k).val, .int .i64 (gapE (b.testR x m r).2 m i k)]) ∧ Below w.heap.size w w' := by
  have HN := Lib.hid (fun (w' : World) (hb : Below w.heap.size w w') => newTest_any b x oa cap or m cr r w' hn hcap (hT.mono hb) (by omega) (hR.mono hb))
  have HL := Lib.hid hR
  have hok := testR_ok (b := b) (x := x) (m := m) (r := r)
  clear hT hR
  generalize b.testR x m r = p at *
  obtain ⟨v, e9⟩ := p
  dsimp only at hok ⊢
  have HO := Lib.hid hok
  clear hok
  go_enter Try.func19, Try.ntmps19
  go_wp2_with fail
  have hbw : Below w.heap.size w ((two 26 b oa cap x w).alloc (.cells #[.int .i64 0, .int .i64 0] 24)) := (two_below 26 b oa cap x w).alloc (by simp; omega) _
  have HR := Lib.hid (Box.new (g := w.heap.size + 1 + 1) #[.int .i64 0, .int .i64 0] 24 (two 26 b oa cap x w) (by simp))
  refine (HN.out _ hbw).mono ?_
  rintro e w1 ⟨rfl, hb1⟩
  have hbw1 := hbw.trans (hb1.mono hbw.size)
  have HR1 := Lib.hid (HR.out.below hb1)
  clear hb1 hbw HR
  go_upto_region 2 with fail
  have T8 := (Box.new #[.int .i64 v.lo, .int .i64 v.hi] 83 w1 rfl)
  have HR2 := Lib.hid (HR1.out.old (.cells #[.int .i64 v.lo, .int .i64 v.hi] 83))
  have hbw2 := hbw1.alloc hbw1.size (.cells #[.int .i64 v.lo, .int .i64 v.hi] 83)
  have hr1 := HR1.out.lt
  obtain ⟨g, hg⟩ : ∃ N, N = w1.heap.size := ⟨_, rfl⟩
  obtain ⟨w2, hw2⟩ : ∃ X, X = w1.alloc (.cells #[.int .i64 v.lo, .int .i64 v.hi] 83) := ⟨_, rfl⟩
  rw [← hw2] at T8 hbw2 HR2 ⊢
  rw [← hg] at T8 hr1 ⊢
  clear hw2 hg hbw1 HR1
  have t0 := T8.cell 0 rfl
  have t1 := T8.cell 1 rfl
  have tl := T8.lt
  have r0 := HR2.out.cell 0 rfl
  have r1 := HR2.out.cell 1 rfl
  have r2 := HR2.out.frozen 0
  have r3 := HR2.out.frozen 1
  have rl := HR2.out.lt
  clear T8 HR2
  by_cases he : e9 = 0
  · subst he
    have W0 : IntKind.i64.wrap ((m : Int) - 1) = (m : Int) - 1 := IntWalk.i64_in _ (by omega)
    go_wp2_with fail
    refine (within_any _ 0 _ _).mono ?_
    rintro e w4 ⟨rfl, h9⟩
    rw [← h9]
    clear h9
    by_cases a1 : withinB i 0 ((m : Int) - 1) = true
    · rw [a1]
      go_wp2_with fail
      refine (within_any _ 0 _ _).mono ?_
      rintro e w4 ⟨rfl, h9⟩
      rw [← h9]
      clear h9
      by_cases a2 : withinB k 0 ((m : Int) - 1) = true
      · rw [a2]
        by_cases a3 : i = k
        · have hin : gapIn m i k = false := by simp [gapIn, a3]
          have a4 : (i == k) = true := by simpa using a3
          have HPE := Lib.hid (gapE_no hin)
          have HPS := Lib.hid (gapS_no (v := v) (r := r) hin)
          go_wp2_with fail
          have pq := put2 r0 r1 (.int .i64 0) (.int .i64 0)
          refine bodyPost_ret (v := .tuple #[.agg #[.int .i64 0, .int .i64 0], .int .i64 2]) (by simp [results, Try.results19, go_sem, pq.1, pq.2]) rfl ⟨by rw [HPE.out, HPS.out], (by repeat' (first | exact Below.refl _ _ | assumption | apply below_drewN | apply Below.drew | (refine Below.alloc ?_ ?_ _) | (refine Below.setCell ?_ ?_ _) | (simp; done) | (simp; omega) | omega))⟩
        · have hin : gapIn m i k = true := by simp [gapIn, a1, a2, a3]
          have a4 : (i == k) = false := by simpa using a3
          obtain ⟨i0, i1, i2, i3, -⟩   := gapIn_all hin
          obtain ⟨k0, k1, k2, k3, k4⟩ := HO.out (by simp)
          obtain ⟨ni, rfl⟩ : ∃ n : Nat, i = n := ⟨i.toNat, by omega⟩
          obtain ⟨nk, rfl⟩ : ∃ n : Nat, k = n := ⟨k.toNat, by omega⟩
          have HPE := Lib.hid (gapE_yes hin)
          have HPS := Lib.hid (gapS_yes (v := v) (r := r) hin)
          obtain ⟨bb, off, rfl, hlt0, c0, c1⟩ := (HL.out.mono hbw2) ni (by omega)
          obtain ⟨bb', off', e1, hlt1, d0, d1⟩ := (HL.out.mono hbw2) nk (by omega)
          cases e1
          obtain ⟨j0, j1, j2⟩ := k4 ni (by omega)
          obtain ⟨j3, j4, j5⟩ := k4 nk (by omega)
          have W1 : IntKind.i64.wrap ((r ni).lo - (r nk).hi) = gapLo r ni nk := IntWalk.i64_in _ (by omega)
          have W2 : IntKind.i64.wrap ((r ni).hi - (r nk).lo) = gapHi r ni nk := IntWalk.i64_in _ (by omega)
          have B1 : -2000000000 ≤ gapLo r ni nk ∧ gapLo r ni nk ≤ 2000000000 := by simp only [gapLo, Int.toNat_natCast]; omega
          have B2 : -2000000000 ≤ gapHi r ni nk ∧ gapHi r ni nk ≤ 2000000000 := by simp only [gapHi, Int.toNat_natCast]; omega
          generalize gapLo r ni nk = low at *
          generalize gapHi r ni nk = high at *
          have W3 : IntKind.i64.wrap (10000 * low) = 10000 * low := IntWalk.i64_in _ (by omega)
          have W4 : IntKind.i64.wrap (10000 * high) = 10000 * high := IntWalk.i64_in _ (by omega)
          have W5 : IntKind.i64.wrap (-high) = -high := IntWalk.i64_in _ (by omega)
          have U1 : 0 < underV v low := by unfold underV; split <;> omega
          have U2 : 0 < underV v (-high) := by unfold underV; split <;> omega
          clear k4 j0 j1 j2 j3 j4 j5
          go_wp2_with fail
          have hx0 : (0 : Int) ≤ (ni : Int) := by omega
          have hx1 : (0 : Int) ≤ (nk : Int) := by omega
          go_big_quiet (fail)
          have t0q : (w2.drewN nq).cell? ⟨g, 0, none⟩ = some (.int .i64 v.lo) := t0
          have t1q : (w2.drewN nq).cell? ⟨g, 1, none⟩ = some (.int .i64 v.hi) := t1
          have r0q : (w2.drewN nq).cell? ⟨w.heap.size + 1 + 1, 0, none⟩ = some (.int .i64 0) := r0
          have r1q : (w2.drewN nq).cell? ⟨w.heap.size + 1 + 1, 1, none⟩ = some (.int .i64 0) := r1
          have r2q : (w2.drewN nq).frozen? ⟨w.heap.size + 1 + 1, 0, none⟩ = false := r2
          have r3q : (w2.drewN nq).frozen? ⟨w.heap.size + 1 + 1, 1, none⟩ = false := r3
          have tlq : g < (w2.drewN nq).heap.size := tl
          have rlq : w.heap.size + 1 + 1 < (w2.drewN nq).heap.size := rl
          have hbq := below_drewN hbw2 nq
          obtain ⟨w3, hw3⟩ : ∃ X, X = w2.drewN nq := ⟨_, rfl⟩
          rw [← hw3] at t0q t1q r0q r1q r2q r3q tlq rlq hbq ⊢
          clear hw3 t0 t1 r0 r1 r2 r3 tl rl hbw2 c0 c1 d0 d1 hlt0 hlt1 W1 W2
          go_wp2_with fail
          go_region_held3 (fun w' => w'.cell? ⟨g, 0, none⟩ = some (.int .i64 v.lo) ∧ w'.cell? ⟨g, 1, none⟩ = some (.int .i64 v.hi)) ((refine ⟨Two.cell (p := w.heap.size + 1 + 1) (q := w.heap.size + 1 + 1) (w := w3) ?_ t0q tlq (by omega) (by omega), Two.cell (p := w.heap.size + 1 + 1) (q := w.heap.size + 1 + 1) (w := w3) ?_ t1q tlq (by omega) (by omega)⟩ <;> (repeat' (first | assumption | exact Two.refl _ _ _ | apply Two.drew | apply Two.setP)))) (first | ((go_at_call 50; refine (under_any _ _ _).mono ?_; rintro e w9 ⟨rfl, hb9'⟩; have hbp : Below w3.heap.size w3 w9 := Below.trans (by repeat' (first | assumption | exact Below.refl _ _ | apply Below.drew)) (hb9'.mono (by first | omega | (simp; done) | (simp; omega))); have hsp := hbp.size; have htp : Two (w.heap.size + 1 + 1) (w.heap.size + 1 + 1) w3 w9 := Two.below (Two.refl _ _ _) hbp)) | ((go_at_call 35; refine (round_tu _ _ _ _ (by simp) (by omega) (by omega)).mono ?_; rintro e w9 ⟨rfl, hb9'⟩; have hbp : Below w3.heap.size w3 w9 := Below.trans (by repeat' (first | assumption | exact Below.refl _ _ | apply Below.drew)) (hb9'.mono (by first | omega | (simp; done) | (simp; omega))); have hsp := hbp.size; have htp : Two (w.heap.size + 1 + 1) (w.heap.size + 1 + 1) w3 w9 := Two.below (Two.refl _ _ _) hbp; have y0 := (hbp.cell (p := ⟨w.heap.size + 1 + 1, 0, none⟩) rlq).trans r0q; have y1 := (hbp.cell (p := ⟨w.heap.size + 1 + 1, 1, none⟩) rlq).trans r1q; have z0 := (hbp.frozen (p := ⟨w.heap.size + 1 + 1, 0, none⟩) rlq).trans r2q; have z1 := (hbp.frozen (p := ⟨w.heap.size + 1 + 1, 1, none⟩) rlq).trans r3q)))
          all_goals
            go_wp2_with fail
            have pq := put2 y0 y1 (.int .i64 (rnd 0 (10000 * low) (underV v low))) (.int .i64 (rnd 1 (10000 * high) (underV v (-high))))
            refine bodyPost_ret (v := .tuple #[.agg #[.int .i64 (rnd 0 (10000 * low) (underV v low)), .int .i64 (rnd 1 (10000 * high) (underV v (-high)))], .int .i64 0]) (by simp [results, Try.results19, go_sem, pq.1, pq.2]) rfl ⟨by rw [HPE.out, HPS.out]; rfl, ((hbq.trans (hbp.mono hbq.size)).setCell (by dsimp only; omega) _).setCell (by dsimp only; omega) _⟩
      · have hin : gapIn m i k = false := by simp [gapIn, a2]
        replace a2 : withinB k 0 ((m : Int) - 1) = false := by simpa using a2
        rw [a2]
        have HPE := Lib.hid (gapE_no hin)
        have HPS := Lib.hid (gapS_no (v := v) (r := r) hin)
        go_wp2_with fail
        have pq := put2 r0 r1 (.int .i64 0) (.int .i64 0)
        refine bodyPost_ret (v := .tuple #[.agg #[.int .i64 0, .int .i64 0], .int .i64 2]) (by simp [results, Try.results19, go_sem, pq.1, pq.2]) rfl ⟨by rw [HPE.out, HPS.out], (by repeat' (first | exact Below.refl _ _ | assumption | apply below_drewN | apply Below.drew | (refine Below.alloc ?_ ?_ _) | (refine Below.setCell ?_ ?_ _) | (simp; done) | (simp; omega) | omega))⟩
    · have hin : gapIn m i k = false := by simp [gapIn, a1]
      replace a1 : withinB i 0 ((m : Int) - 1) = false := by simpa using a1
      rw [a1]
      have HPE := Lib.hid (gapE_no hin)
      have HPS := Lib.hid (gapS_no (v := v) (r := r) hin)
      go_wp2_with fail
      have pq := put2 r0 r1 (.int .i64 0) (.int .i64 0)
      refine bodyPost_ret (v := .tuple #[.agg #[.int .i64 0, .int .i64 0], .int .i64 2]) (by simp [results, Try.results19, go_sem, pq.1, pq.2]) rfl ⟨by rw [HPE.out, HPS.out], (by repeat' (first | exact Below.refl _ _ | assumption | apply below_drewN | apply Below.drew | (refine Below.alloc ?_ ?_ _) | (refine Below.setCell ?_ ?_ _) | (simp; done) | (simp; omega) | omega))⟩
  · have hne : (e9 != 0) = true := by simpa using he
    have HPE := Lib.hid (gapE_ne (m := m) (i := i) (k := k) he)
    have HPS := Lib.hid (gapS_ne (v := v) (m := m) (r := r) (i := i) (k := k) he)
    go_wp2_with fail
    have pq := put2 r0 r1 (.int .i64 0) (.int .i64 0)
    refine bodyPost_ret (v := .tuple #[.agg #[.int .i64 0, .int .i64 0], .int .i64 e9]) (by simp [results, Try.results19, go_sem, pq.1, pq.2]) rfl ⟨by rw [HPE.out, HPS.out], (by repeat' (first | exact Below.refl _ _ | assumption | apply below_drewN | apply Below.drew | (refine Below.alloc ?_ ?_ _) | (refine Below.setCell ?_ ?_ _) | (simp; done) | (simp; omega) | omega))⟩
end Go.Proofs.Ythoefcpeagclbaa
