/- Whether a row is right, and its test. -/
import Derived.Test.YtlofopnjjeeehaaDoorBnH
import Derived.Test.YtlofopnjjeeehaaDoorBnI
namespace Go.Proofs.YtlofopnjjeeehaaDoor.Bn
open Go.RowKit
set_option maxHeartbeats 400000 in
theorem bad_any (s : Spn) (w : World) :
    Calls Tryd.prog 25 #[s.val] w fun e w' => e = .returned (.bool (badS s)) ∧ Below w.heap.size w w' := by
  go_enter Tryd.func25, Tryd.ntmps25
  go_wp2_with (go_at_call 26; refine (isSpan_any s 0 1073741824 _).mono ?_; rintro e w1 ⟨rfl, hb1⟩; have hbm : Below w.heap.size w w1 := (Below.trans ((by repeat' (first | exact Below.refl _ _ | assumption | apply below_drewN | apply Below.drew | (refine Below.alloc ?_ ?_ _) | (refine Below.setCell ?_ ?_ _) | (simp; done) | (simp; omega) | omega))) (Below.mono hb1 (by simp <;> omega))))
  all_goals (go_ret; exact ⟨ret_bool (by simp [badS]), (by repeat' (first | exact Below.refl _ _ | assumption | apply below_drewN | apply Below.drew | (refine Below.alloc ?_ ?_ _) | (refine Below.setCell ?_ ?_ _) | (simp; done) | (simp; omega) | omega))⟩)
set_option maxHeartbeats 400000 in
theorem indexSpans_any (oa : Option Addr) (n cap : Nat) (t : Nat → Spn) (w : World) (hn : n ≤ 1000000) (hT : SpnsAt w oa n t) :
    Calls Tryd.prog 38 #[.slice oa n cap, .func (.func 25) #[] #[]] w fun e w' => ∃ k : Int, e = .returned (.int .i64 k) ∧ decide (0 ≤ k) = anyB n (fun i => badS (t i)) ∧ Below w.heap.size w w' := by
  have HT := Lib.hid hT
  clear hT
  go_enter Tryd.func38, Tryd.ntmps38
  go_wp2
  go_loopw [5, 8] (fun v5 v8 wr => ∃ k : Nat, k ≤ n ∧ v8 = .int .i64 k ∧ (∀ j, j < k → badS (t j) = false) ∧ Below w.heap.size w wr) (fun _ i _ => n - (intOf i).toNat)
  case atStart => exact ⟨0, Nat.zero_le _, rfl, fun j hj => absurd hj (by omega), Below.refl _ _⟩
  case round =>
    obtain ⟨k, hk, rfl, hno, hb⟩ := hrel
    have HN := Lib.hid hno
    clear hno
    by_cases hlt : k < n
    · have hd0 : decide (k < n) = true := by simpa using hlt
      obtain ⟨b, off, rfl, hlt0, h0, h1⟩ := (HT.out.mono hb) k hlt
      by_cases hk2 : badS (t k) = true
      · go_wp2_with (go_at_call 25; refine (bad_any _ _).mono ?_; rintro e w1 ⟨rfl, hb1⟩; rw [hk2])
        go_ret
        exact ⟨_, rfl, by
          rw [anyB_iff.2 ⟨k, hlt, hk2⟩]; simp, hb.trans (hb1.mono hb.size)⟩
      · have hk2 : badS (t k) = false := by simpa using hk2
        go_wp2_with (go_at_call 25; refine (bad_any _ _).mono ?_; rintro e w1 ⟨rfl, hb1⟩; rw [hk2])
        go_roundw
        case rel => exact ⟨k + 1, by omega, by go_num, fun j hj => by
          by_cases e : j = k
          · subst e; exact hk2
          · exact HN.out j (by omega), hb.trans (hb1.mono hb.size)⟩
        case measure => simp [intOf]; omega
    · have hd0 : decide (k < n) = false := by simpa using hlt
      go_wp2_with fail
      go_ret
      have hz : decide ((0 : Int) ≤ -1) = anyB n (fun i => badS (t i)) := by
        cases ha : anyB n (fun i => badS (t i))
        · simp
        · obtain ⟨i, hi, h⟩ := anyB_iff.1 ha
          rw [HN.out i (by omega)] at h
          cases h
      exact ⟨-1, rfl, hz, (by repeat' (first | exact Below.refl _ _ | assumption | apply below_drewN | apply Below.drew | (refine Below.alloc ?_ ?_ _) | (refine Below.setCell ?_ ?_ _) | (simp; done) | (simp; omega) | omega))⟩
set_option maxHeartbeats 400000 in
theorem containsSpans_any (oa : Option Addr) (n cap : Nat) (t : Nat → Spn) (w : World) (hn : n ≤ 1000000) (hT : SpnsAt w oa n t) :
    Calls Tryd.prog 24 #[.slice oa n cap, .func (.func 25) #[] #[]] w fun e w' => e = .returned (.bool (anyB n (fun i => badS (t i)))) ∧ Below w.heap.size w w' := by
  have HT := Lib.hid hT
  clear hT
  go_enter Tryd.func24, Tryd.ntmps24
  go_wp2_with (go_at_call 38; refine (indexSpans_any _ _ _ _ _ hn HT.out).mono ?_; rintro e w1 ⟨k, rfl, hk, hb1⟩)
  all_goals (go_ret; exact ⟨ret_bool (by rw [← hk]), hb1⟩)
set_option maxRecDepth 100000 in
set_option maxHeartbeats 4000000 in
theorem newTest_any (b : Bnch) (x : Ctch) (oa : Option Addr) (cap : Nat) (or : Option Addr) (m cr : Nat) (r : Nat → Spn) (w : World) (hn : b.n ≤ 1000000) (hcap : b.n ≤ cap) (hT : MarksAt w oa b.n b.t) (hm : m ≤ 1000000) (hR : SpnsAt w or m r) :
    Calls Tryd.prog 11 #[b.val oa cap, x.val, .slice or m cr] w fun e w' => e = .returned (.tuple #[(b.testR x m r).1.val, .int .i64 (b.testR x m r).2]) ∧ Below w.heap.size w w' := by
  have HT := Lib.hid hT
  have HL := Lib.hid hR
  clear hT hR
  go_enter Tryd.func11, Tryd.ntmps11
  go_wp2_with fail
  have HR := Lib.hid (Box.new (g := w.heap.size + 1 + 1) #[.int .i64 0, .int .i64 0] 55 (two 37 b oa cap x w) (by simp))
  have hbw : Below w.heap.size w ((two 37 b oa cap x w).alloc (.cells #[.int .i64 0, .int .i64 0] 55)) := (two_below 37 b oa cap x w).alloc (by simp; omega) _
  refine (Water_any b x oa cap _ hn hcap (HT.out.mono hbw)).mono ?_
  rintro e w1 ⟨rfl, hb1⟩
  have HR1 := Lib.hid (HR.out.below hb1)
  have hbw1 := hbw.trans (hb1.mono hbw.size)
  clear hb1 hbw HR
  obtain ⟨⟨v, e9⟩, hW⟩ : ∃ p, p = b.waterR x := ⟨_, rfl⟩
  rw [← hW]
  dsimp only
  have HW := Lib.hid hW
  clear hW
  go_upto_region 2 with fail
  have T8 := (Box.new #[.int .i64 v.lo, .int .i64 v.hi] 35 w1 rfl)
  have HR2 := Lib.hid (HR1.out.old (.cells #[.int .i64 v.lo, .int .i64 v.hi] 35))
  have hbw2 := hbw1.alloc hbw1.size (.cells #[.int .i64 v.lo, .int .i64 v.hi] 35)
  have hr1 := HR1.out.lt
  obtain ⟨g, hg⟩ : ∃ N, N = w1.heap.size := ⟨_, rfl⟩
  obtain ⟨w2, hw2⟩ : ∃ X, X = w1.alloc (.cells #[.int .i64 v.lo, .int .i64 v.hi] 35) := ⟨_, rfl⟩
  rw [← hw2] at T8 HR2 hbw2 ⊢
  rw [← hg] at T8 hr1 ⊢
  clear hw2 hg HR1 hbw1
  have r0 := HR2.out.cell 0 rfl
  have r1 := HR2.out.cell 1 rfl
  have r2 := HR2.out.frozen 0
  have r3 := HR2.out.frozen 1
  have HT8 := Lib.hid T8
  clear T8
  by_cases he : e9 = 0
  · subst he
    by_cases h16 : 16 < m
    · have hd : decide ((16 : Int) < (m : Int)) = true := by simp; omega
      have hfl : b.testR x m r = (⟨0, 0⟩, 3) := by
        unfold Bnch.testR
        rw [← HW.out, if_pos rfl, if_pos h16]
      have HF := Lib.hid hfl
      clear hfl
      go_wp2_with fail
      have pq := put2 r0 r1 (.int .i64 0) (.int .i64 0)
      refine bodyPost_ret (v := .tuple #[.agg #[.int .i64 0, .int .i64 0], .int .i64 3]) (by simp [results, Tryd.results11, go_sem, pq.1, pq.2]) rfl ⟨by rw [HF.out], (by repeat' (first | exact Below.refl _ _ | assumption | apply below_drewN | apply Below.drew | (refine Below.alloc ?_ ?_ _) | (refine Below.setCell ?_ ?_ _) | (simp; done) | (simp; omega) | omega))⟩
    · have hd : decide ((16 : Int) < (m : Int)) = false := by simp; omega
      go_wp2_with fail
      refine (containsSpans_any _ _ _ _ _ hm (HL.out.mono hbw2)).mono ?_
      rintro e w3 ⟨rfl, hb3⟩
      have HR3 := Lib.hid (HR2.out.below hb3)
      have HT3 := Lib.hid (HT8.out.below hb3)
      have hbw3 := hbw2.trans (hb3.mono hbw2.size)
      clear hb3 HR2 HT8 hbw2 r0 r1 r2 r3
      have r0 := HR3.out.cell 0 rfl
      have r1 := HR3.out.cell 1 rfl
      have r2 := HR3.out.frozen 0
      have r3 := HR3.out.frozen 1
      have rl := HR3.out.lt
      have t0 := HT3.out.cell 0 rfl
      have t1 := HT3.out.cell 1 rfl
      have tl := HT3.out.lt
      by_cases ha : anyB m (fun i => badS (r i)) = true
      · have hfl : b.testR x m r = (⟨0, 0⟩, 2) := by
          unfold Bnch.testR
          rw [← HW.out, if_pos rfl, if_neg h16, if_pos ha]
        have HF := Lib.hid hfl
        clear hfl
        rw [ha]
        go_wp2_with fail
        have pq := put2 r0 r1 (.int .i64 0) (.int .i64 0)
        refine bodyPost_ret (v := .tuple #[.agg #[.int .i64 0, .int .i64 0], .int .i64 2]) (by simp [results, Tryd.results11, go_sem, pq.1, pq.2]) rfl ⟨by rw [HF.out], (by repeat' (first | exact Below.refl _ _ | assumption | apply below_drewN | apply Below.drew | (refine Below.alloc ?_ ?_ _) | (refine Below.setCell ?_ ?_ _) | (simp; done) | (simp; omega) | omega))⟩
      · have hfl : b.testR x m r = (v, 0) := by
          unfold Bnch.testR
          rw [← HW.out, if_pos rfl, if_neg h16, if_neg ha]
        have HF := Lib.hid hfl
        clear hfl
        replace ha : anyB m (fun i => badS (r i)) = false := by simpa using ha
        rw [ha]
        go_wp2_with fail
        have pq := put2 r0 r1 (.int .i64 v.lo) (.int .i64 v.hi)
        refine bodyPost_ret (v := .tuple #[.agg #[.int .i64 v.lo, .int .i64 v.hi], .int .i64 0]) (by simp [results, Tryd.results11, go_sem, pq.1, pq.2]) rfl ⟨by rw [HF.out], (by repeat' (first | exact Below.refl _ _ | assumption | apply below_drewN | apply Below.drew | (refine Below.alloc ?_ ?_ _) | (refine Below.setCell ?_ ?_ _) | (simp; done) | (simp; omega) | omega))⟩
  · have hfl : b.testR x m r = (⟨0, 0⟩, e9) := by
      unfold Bnch.testR
      rw [← HW.out]
      exact if_neg he
    have HF := Lib.hid hfl
    clear hfl
    have hne : (e9 != 0) = true := by simpa using he
    go_wp2_with fail
    have pq := put2 r0 r1 (.int .i64 0) (.int .i64 0)
    refine bodyPost_ret (v := .tuple #[.agg #[.int .i64 0, .int .i64 0], .int .i64 e9]) (by simp [results, Tryd.results11, go_sem, pq.1, pq.2]) rfl ⟨by rw [HF.out], (by repeat' (first | exact Below.refl _ _ | assumption | apply below_drewN | apply Below.drew | (refine Below.alloc ?_ ?_ _) | (refine Below.setCell ?_ ?_ _) | (simp; done) | (simp; omega) | omega))⟩
end Go.Proofs.YtlofopnjjeeehaaDoor.Bn
