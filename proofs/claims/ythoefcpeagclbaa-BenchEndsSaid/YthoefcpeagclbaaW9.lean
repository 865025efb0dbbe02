/- The document's At is a table's value at a number; the table is valid, the number within it. -/
import Derived.Test.YthoefcpeagclbaaW8
namespace Go.Proofs.Ythoefcpeagclbaa
open Go.RowKit
set_option maxHeartbeats 2000000 in
theorem refAt_any (b : Bnch) (oa : Option Addr) (cap : Nat) (x : Int) (w : World) (hV : Tab b.n b.t) (hT : MarksAt w oa b.n b.t) (h0' : (b.t 0).at_ ≤ x) (hx : x ≤ (b.t (b.n - 1)).at_) :
    Calls Try.prog 52 #[b.val oa cap, .int .i64 x] w fun e w' => e = .returned (tabAt b.n b.t x).val ∧ Below w.heap.size w w' := by
  have hn := hV.two
  have hn2 := hV.few
  obtain ⟨i1, i2, i3, i4⟩ := tabI_spec hn hx
  unfold tabAt
  obtain ⟨i, hi⟩ : ∃ i, i = tabI b.n b.t x := ⟨_, rfl⟩
  rw [← hi] at i1 i2 i3 i4 ⊢
  have HT := Lib.hid hT
  have HV := Lib.hid hV
  have I3 := Lib.hid i3
  have hx1 := hV.at1 (b.n - 1) (by omega)
  clear hT hV i3 hi
  go_enter Try.func52, Try.ntmps52
  go_wp2_with fail
  have HB := Lib.hid ((Box.new #[.bool b.weighs, .slice oa b.n cap, .int .i64 b.off, .int .i64 b.buoy.lo, .int .i64 b.buoy.hi, .int .i64 b.air.lo, .int .i64 b.air.hi] 26 w rfl).old (.cells #[.int .i64 0, .int .i64 0] 50))
  have HR := Lib.hid (Box.new #[.int .i64 0, .int .i64 0] 50 (w.alloc (.cells #[.bool b.weighs, .slice oa b.n cap, .int .i64 b.off, .int .i64 b.buoy.lo, .int .i64 b.buoy.hi, .int .i64 b.air.lo, .int .i64 b.air.hi] 26)) rfl)
  have hbw : Below w.heap.size w ((w.alloc (.cells #[.bool b.weighs, .slice oa b.n cap, .int .i64 b.off, .int .i64 b.buoy.lo, .int .i64 b.buoy.hi, .int .i64 b.air.lo, .int .i64 b.air.hi] 26)).alloc (.cells #[.int .i64 0, .int .i64 0] 50)) := (by repeat' (first | exact Below.refl _ _ | assumption | apply below_drewN | apply Below.drew | (refine Below.alloc ?_ ?_ _) | (refine Below.setCell ?_ ?_ _) | (simp; done) | (simp; omega) | omega))
  rw [show (w.alloc (.cells #[.bool b.weighs, .slice oa b.n cap, .int .i64 b.off, .int .i64 b.buoy.lo, .int .i64 b.buoy.hi, .int .i64 b.air.lo, .int .i64 b.air.hi] 26)).heap.size = w.heap.size + 1 by simp] at HR
  obtain ⟨w0, hw0⟩ : ∃ X, X = (w.alloc (.cells #[.bool b.weighs, .slice oa b.n cap, .int .i64 b.off, .int .i64 b.buoy.lo, .int .i64 b.buoy.hi, .int .i64 b.air.lo, .int .i64 b.air.hi] 26)).alloc (.cells #[.int .i64 0, .int .i64 0] 50) := ⟨_, rfl⟩
  rw [← hw0] at HB HR hbw ⊢
  clear hw0
  obtain ⟨g0, g1, g2, g3, g4, g5, g6, g7⟩ := BB.cells (b := b) HB.out
  clear g0 g2 g3 g4 g5 g6
  go_loopw [5] (fun v5 wr => ∃ k : Nat, 1 ≤ k ∧ k ≤ i ∧ v5 = .int .i64 k ∧ wr = w0) (fun v _ => b.n - (intOf v).toNat)
  case atStart => exact ⟨1, by omega, i1, rfl, rfl⟩
  case round =>
    obtain ⟨k, hk1, hk, rfl, rfl⟩ := hrel
    obtain ⟨bb, off, rfl, hlt1, q0, q1⟩ := (HT.out.mono hbw) k (by omega)
    by_cases hki : k = i
    · obtain rfl := hki
      obtain ⟨bb', off', e1, -, p0, p1⟩ := (HT.out.mono hbw) (k - 1) (by omega)
      cases e1
      have ek : ((k : Int) - 1) = ((k - 1 : Nat) : Int) := by omega
      have ek1 : ((k : Int) - 1).toNat = k - 1 := by omega
      have c2 : decide ((b.t k).at_ < x) = false := by simpa using i4
      have k1 : (k : Int) < (b.n : Int) := by omega
      by_cases c1 : k + 1 < b.n
      · skip
        go_wp2_with fail
        go_cut [6, 7] (fun s6 s7 wx => Below wr.heap.size wr wx ∧ ∃ g0 g1, s6 = .pointer (some ⟨g0, 0, none⟩) ∧ s7 = .pointer (some ⟨g1, 0, none⟩) ∧ wx.cell? ⟨g0, 0, none⟩ = some (.int .i64 (b.t (k - 1)).at_) ∧ wx.cell? ⟨g0, 1, none⟩ = some (.int .i64 (b.t (k - 1)).value) ∧ wx.cell? ⟨g1, 0, none⟩ = some (.int .i64 (b.t k).at_) ∧ wx.cell? ⟨g1, 1, none⟩ = some (.int .i64 (b.t k).value))
        case first =>
          go_region
          all_goals
            go_wp2_with fail
            go_meet
            exact ⟨(by repeat' (first | exact Below.refl _ _ | assumption | apply below_drewN | apply Below.drew | (refine Below.alloc ?_ ?_ _) | (refine Below.setCell ?_ ?_ _) | (simp; done) | (simp; omega) | omega)), _, _, rfl, rfl, by simp [go_sem], by simp [go_sem], by simp [go_sem], by simp [go_sem]⟩
        case rest =>
          obtain ⟨hbx, h0, h1, rfl, rfl, a0, a1, z0, z1⟩ := hcut
          have HR2 := HR.out.below hbx
          have c1 := HR2.cell 0 rfl
          have c2 := HR2.cell 1 rfl
          have f1 := HR2.frozen 0
          have f2 := HR2.frozen 1
          have hbw2 := hbw.trans (hbx.mono hbw.size)
          have hs := HR2.lt
          have hs2 := hbw2.size
          have d1 := at_step HV.out hk1 i2 I3.out h0'
          have v1 := HV.out.v0 (k - 1) (by omega)
          have v2 := HV.out.v1 (k - 1) (by omega)
          have v3 := HV.out.v0 k i2
          have v4 := HV.out.v1 k i2
          have d2 := HV.out.at1 k i2
          have d3 := HV.out.at0 (k - 1) (by omega)
          have m1 := mulb (a := (b.t (k - 1)).value) (b := (b.t k).at_ - (b.t (k - 1)).at_) (x := 10000000) (y := 10000) (by omega) (by omega) (by omega) (by omega)
          have m2 := mulsb (a := (b.t k).value - (b.t (k - 1)).value) (b := x - (b.t (k - 1)).at_) (x := 10000000) (y := 10000) (by omega) (by omega) (by omega) (by omega)
          clear hbx HR2
          go_wp2_with fail
          have pq := put2 c1 c2 (.int .i64 ((b.t (k - 1)).value * ((b.t k).at_ - (b.t (k - 1)).at_) + ((b.t k).value - (b.t (k - 1)).value) * (x - (b.t (k - 1)).at_))) (.int .i64 ((b.t k).at_ - (b.t (k - 1)).at_))
          refine bodyPost_ret (v := .agg #[.int .i64 ((b.t (k - 1)).value * ((b.t k).at_ - (b.t (k - 1)).at_) + ((b.t k).value - (b.t (k - 1)).value) * (x - (b.t (k - 1)).at_)), .int .i64 ((b.t k).at_ - (b.t (k - 1)).at_)]) (by simp [results, Try.results52, go_sem, pq.1, pq.2]) rfl ⟨rfl, ?_⟩
          exact (by repeat' (first | exact Below.refl _ _ | assumption | apply below_drewN | apply Below.drew | (refine Below.alloc ?_ ?_ _) | (refine Below.setCell ?_ ?_ _) | (simp; done) | (simp; omega) | omega))
      · have c1' : ¬ (k : Int) + 1 < (b.n : Int) := by omega
        go_wp2_with fail
        go_cut [6, 7] (fun s6 s7 wx => Below wr.heap.size wr wx ∧ ∃ g0 g1, s6 = .pointer (some ⟨g0, 0, none⟩) ∧ s7 = .pointer (some ⟨g1, 0, none⟩) ∧ wx.cell? ⟨g0, 0, none⟩ = some (.int .i64 (b.t (k - 1)).at_) ∧ wx.cell? ⟨g0, 1, none⟩ = some (.int .i64 (b.t (k - 1)).value) ∧ wx.cell? ⟨g1, 0, none⟩ = some (.int .i64 (b.t k).at_) ∧ wx.cell? ⟨g1, 1, none⟩ = some (.int .i64 (b.t k).value))
        case first =>
          go_region
          all_goals
            go_wp2_with fail
            go_meet
            exact ⟨(by repeat' (first | exact Below.refl _ _ | assumption | apply below_drewN | apply Below.drew | (refine Below.alloc ?_ ?_ _) | (refine Below.setCell ?_ ?_ _) | (simp; done) | (simp; omega) | omega)), _, _, rfl, rfl, by simp [go_sem], by simp [go_sem], by simp [go_sem], by simp [go_sem]⟩
        case rest =>
          obtain ⟨hbx, h0, h1, rfl, rfl, a0, a1, z0, z1⟩ := hcut
          have HR2 := HR.out.below hbx
          have c1 := HR2.cell 0 rfl
          have c2 := HR2.cell 1 rfl
          have f1 := HR2.frozen 0
          have f2 := HR2.frozen 1
          have hbw2 := hbw.trans (hbx.mono hbw.size)
          have hs := HR2.lt
          have hs2 := hbw2.size
          have d1 := at_step HV.out hk1 i2 I3.out h0'
          have v1 := HV.out.v0 (k - 1) (by omega)
          have v2 := HV.out.v1 (k - 1) (by omega)
          have v3 := HV.out.v0 k i2
          have v4 := HV.out.v1 k i2
          have d2 := HV.out.at1 k i2
          have d3 := HV.out.at0 (k - 1) (by omega)
          have m1 := mulb (a := (b.t (k - 1)).value) (b := (b.t k).at_ - (b.t (k - 1)).at_) (x := 10000000) (y := 10000) (by omega) (by omega) (by omega) (by omega)
          have m2 := mulsb (a := (b.t k).value - (b.t (k - 1)).value) (b := x - (b.t (k - 1)).at_) (x := 10000000) (y := 10000) (by omega) (by omega) (by omega) (by omega)
          clear hbx HR2
          go_wp2_with fail
          have pq := put2 c1 c2 (.int .i64 ((b.t (k - 1)).value * ((b.t k).at_ - (b.t (k - 1)).at_) + ((b.t k).value - (b.t (k - 1)).value) * (x - (b.t (k - 1)).at_))) (.int .i64 ((b.t k).at_ - (b.t (k - 1)).at_))
          refine bodyPost_ret (v := .agg #[.int .i64 ((b.t (k - 1)).value * ((b.t k).at_ - (b.t (k - 1)).at_) + ((b.t k).value - (b.t (k - 1)).value) * (x - (b.t (k - 1)).at_)), .int .i64 ((b.t k).at_ - (b.t (k - 1)).at_)]) (by simp [results, Try.results52, go_sem, pq.1, pq.2]) rfl ⟨rfl, ?_⟩
          exact (by repeat' (first | exact Below.refl _ _ | assumption | apply below_drewN | apply Below.drew | (refine Below.alloc ?_ ?_ _) | (refine Below.setCell ?_ ?_ _) | (simp; done) | (simp; omega) | omega))
    · have hki2 : k < i := by omega
      have c2 : decide ((b.t k).at_ < x) = true := by simpa using I3.out k hk1 hki2
      have c1 : (k : Int) + 1 < (b.n : Int) := by omega
      have k1 : (k : Int) < (b.n : Int) := by omega
      go_wp2_with fail
      go_roundw
      case rel => exact ⟨k + 1, by omega, by omega, by go_num, trivial⟩
      case measure => simp [intOf]; omega
end Go.Proofs.Ythoefcpeagclbaa
