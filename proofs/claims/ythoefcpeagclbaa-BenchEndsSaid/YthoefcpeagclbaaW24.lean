/- The document's start of a row says what the program's test says. -/
import Derived.Test.YthoefcpeagclbaaW23
namespace Go.Proofs.Ythoefcpeagclbaa
open Go.RowKit
set_option maxRecDepth 100000 in
set_option maxHeartbeats 4000000 in
theorem start_any (b : Bnch) (x : Ctch) (oa : Option Addr) (cap : Nat) (or : Option Addr) (m cr : Nat) (r : Nat → Spn) (w : World) (hn : b.n ≤ 1000000) (hT : MarksAt w oa b.n b.t) (hm : m ≤ 1000000) (hR : SpnsAt w or m r) :
    Calls Try.prog 42 #[b.val oa cap, x.val, .slice or m cr] w fun e w' => e = .returned (.tuple #[(b.testR x m r).1.val, .int .i64 (b.testR x m r).2]) ∧ Below w.heap.size w w' := by
  have HT := Lib.hid hT
  have HL := Lib.hid hR
  clear hT hR
  go_enter Try.func42, Try.ntmps42
  go_wp2_with fail
  have HR := Lib.hid (Box.new (g := w.heap.size + 1 + 1) #[.int .i64 0, .int .i64 0] 24 (two 26 b oa cap x w) (by simp))
  have hbw : Below w.heap.size w ((two 26 b oa cap x w).alloc (.cells #[.int .i64 0, .int .i64 0] 24)) := (two_below 26 b oa cap x w).alloc (by simp; omega) _
  refine (refWater_any b x oa cap _ hn (HT.out.mono hbw)).mono ?_
  rintro e w1 ⟨rfl, hb1⟩
  have HR1 := Lib.hid (HR.out.below hb1)
  have hbw1 := hbw.trans (hb1.mono hbw.size)
  clear hb1 hbw HR
  obtain ⟨⟨v, e9⟩, hW⟩ : ∃ p, p = b.waterR x := ⟨_, rfl⟩
  rw [← hW]
  dsimp only
  have HW := Lib.hid hW
  clear hW
  go_upto_region 2 with fail
  have T8 := (Box.new #[.int .i64 v.lo, .int .i64 v.hi] 24 w1 rfl)
  have HR2 := Lib.hid (HR1.out.old (.cells #[.int .i64 v.lo, .int .i64 v.hi] 24))
  have hbw2 := hbw1.alloc hbw1.size (.cells #[.int .i64 v.lo, .int .i64 v.hi] 24)
  have hr1 := HR1.out.lt
  obtain ⟨g, hg⟩ : ∃ N, N = w1.heap.size := ⟨_, rfl⟩
  obtain ⟨w2, hw2⟩ : ∃ X, X = w1.alloc (.cells #[.int .i64 v.lo, .int .i64 v.hi] 24) := ⟨_, rfl⟩
  rw [← hw2] at T8 HR2 hbw2 ⊢
  rw [← hg] at T8 hr1 ⊢
  clear hw2 hg HR1 hbw1
  have r0 := HR2.out.cell 0 rfl
  have r1 := HR2.out.cell 1 rfl
  have r2 := HR2.out.frozen 0
  have r3 := HR2.out.frozen 1
  have HT8 := Lib.hid T8
  clear T8
  by_cases he : e9 = 0
  · subst he
    by_cases h16 : 16 < m
    · have hd : decide ((16 : Int) < (m : Int)) = true := by simp; omega
      have hfl : b.testR x m r = (⟨0, 0⟩, 3) := by
        unfold Bnch.testR
        rw [← HW.out, if_pos rfl, if_pos h16]
      have HF := Lib.hid hfl
      clear hfl
      go_wp2_with fail
      have pq := put2 r0 r1 (.int .i64 0) (.int .i64 0)
      refine bodyPost_ret (v := .tuple #[.agg #[.int .i64 0, .int .i64 0], .int .i64 3]) (by simp [results, Try.results42, go_sem, pq.1, pq.2]) rfl ⟨by rw [HF.out], (by repeat' (first | exact Below.refl _ _ | assumption | apply below_drewN | apply Below.drew | (refine Below.alloc ?_ ?_ _) | (refine Below.setCell ?_ ?_ _) | (simp; done) | (simp; omega) | omega))⟩
    · have hd : decide ((16 : Int) < (m : Int)) = false := by simp; omega
      clear r0 r1 r2 r3
      go_wp2_with fail
      go_loopw [10] (fun v10 wr => ∃ k : Nat, k ≤ m ∧ v10 = .int .i64 k ∧ (∀ j, j < k → badS (r j) = false) ∧ Below w2.heap.size w2 wr) (fun i _ => m - (intOf i).toNat)
      case atStart => exact ⟨0, Nat.zero_le _, rfl, fun j hj => absurd hj (by omega), Below.refl _ _⟩
      case round =>
        obtain ⟨k, hk, rfl, hno, hb⟩ := hrel
        have HN := Lib.hid hno
        clear hno
        have HR3 := Lib.hid (HR2.out.below hb)
        have HT3 := Lib.hid (HT8.out.below hb)
        have hbw3 := hbw2.trans (hb.mono hbw2.size)
        have r0 := HR3.out.cell 0 rfl
        have r1 := HR3.out.cell 1 rfl
        have r2 := HR3.out.frozen 0
        have r3 := HR3.out.frozen 1
        have rl := HR3.out.lt
        have t0 := HT3.out.cell 0 rfl
        have t1 := HT3.out.cell 1 rfl
        have tl := HT3.out.lt
        by_cases hlt : k < m
        · have hd0 : decide (k < m) = true := by simpa using hlt
          obtain ⟨bb, off, rfl, hlt0, h0, h1⟩ := (HL.out.mono hbw3) k hlt
          by_cases hk2 : badS (r k) = true
          · have hfl : b.testR x m r = (⟨0, 0⟩, 2) := by
              unfold Bnch.testR
              rw [← HW.out, if_pos rfl, if_neg h16, if_pos (anyB_iff.2 ⟨k, hlt, hk2⟩)]
            have HF := Lib.hid hfl
            clear hfl
            have hsp : spanB (r k) 0 1073741824 = false := by simpa [badS] using hk2
            go_wp2_with fail
            refine (refSpan_any _ _ _ _).mono ?_
            rintro e w4 ⟨rfl, hb4⟩
            rw [hsp]
            have hbw4 := hbw3.trans (hb4.mono hbw3.size)
            have r0 := (hb4.cell (p := ⟨w.heap.size + 1 + 1, 0, none⟩) rl).trans r0
            have r1 := (hb4.cell (p := ⟨w.heap.size + 1 + 1, 1, none⟩) rl).trans r1
            have r2 := (hb4.frozen (p := ⟨w.heap.size + 1 + 1, 0, none⟩) rl).trans r2
            have r3 := (hb4.frozen (p := ⟨w.heap.size + 1 + 1, 1, none⟩) rl).trans r3
            clear hb4
            go_wp2_with fail
            have pq := put2 r0 r1 (.int .i64 0) (.int .i64 0)
            refine bodyPost_ret (v := .tuple #[.agg #[.int .i64 0, .int .i64 0], .int .i64 2]) (by simp [results, Try.results42, go_sem, pq.1, pq.2]) rfl ⟨by rw [HF.out], (by repeat' (first | exact Below.refl _ _ | assumption | apply below_drewN | apply Below.drew | (refine Below.alloc ?_ ?_ _) | (refine Below.setCell ?_ ?_ _) | (simp; done) | (simp; omega) | omega))⟩
          · replace hk2 : badS (r k) = false := by simpa using hk2
            have hsp : spanB (r k) 0 1073741824 = true := by simpa [badS] using hk2
            go_wp2_with fail
            refine (refSpan_any _ _ _ _).mono ?_
            rintro e w4 ⟨rfl, hb4⟩
            rw [hsp]
            go_wp2_with fail
            go_roundw
            case rel => exact ⟨k + 1, by omega, by go_num, fun j hj => by
              by_cases e : j = k
              · subst e; exact hk2
              · exact HN.out j (by omega), hb.trans (hb4.mono hb.size)⟩
            case measure => simp [intOf]; omega
        · have hd0 : decide (k < m) = false := by simpa using hlt
          have ha : ¬ anyB m (fun i => badS (r i)) = true := fun ha => by
            obtain ⟨i, hi, h⟩ := anyB_iff.1 ha
            rw [HN.out i (by omega)] at h; cases h
          have hfl : b.testR x m r = (v, 0) := by
            unfold Bnch.testR
            rw [← HW.out, if_pos rfl, if_neg h16, if_neg ha]
          have HF := Lib.hid hfl
          clear hfl
          go_wp2_with fail
          have pq := put2 r0 r1 (.int .i64 v.lo) (.int .i64 v.hi)
          refine bodyPost_ret (v := .tuple #[.agg #[.int .i64 v.lo, .int .i64 v.hi], .int .i64 0]) (by simp [results, Try.results42, go_sem, pq.1, pq.2]) rfl ⟨by rw [HF.out], (by repeat' (first | exact Below.refl _ _ | assumption | apply below_drewN | apply Below.drew | (refine Below.alloc ?_ ?_ _) | (refine Below.setCell ?_ ?_ _) | (simp; done) | (simp; omega) | omega))⟩
  · have hfl : b.testR x m r = (⟨0, 0⟩, e9) := by
      unfold Bnch.testR
      rw [← HW.out]
      exact if_neg he
    have HF := Lib.hid hfl
    clear hfl
    have hne : (e9 != 0) = true := by simpa using he
    go_wp2_with fail
    have pq := put2 r0 r1 (.int .i64 0) (.int .i64 0)
    refine bodyPost_ret (v := .tuple #[.agg #[.int .i64 0, .int .i64 0], .int .i64 e9]) (by simp [results, Try.results42, go_sem, pq.1, pq.2]) rfl ⟨by rw [HF.out], (by repeat' (first | exact Below.refl _ _ | assumption | apply below_drewN | apply Below.drew | (refine Below.alloc ?_ ?_ _) | (refine Below.setCell ?_ ?_ _) | (simp; done) | (simp; omega) | omega))⟩
end Go.Proofs.Ythoefcpeagclbaa
