/- The value of a valid table at a number within it. -/
import Derived.Test.YthoefcpeagclbaaW3
import Derived.Deep.DeepCutAuto
import Derived.BigRegion
namespace Go.Proofs.Ythoefcpeagclbaa
open Go.RowKit
theorem marks_tail {w : World} {b off n : Nat} {t : Nat → Mark} (h : MarksAt w (some ⟨b, off, none⟩) n t) (hn : 1 ≤ n) : MarksAt w (some ⟨b, off + 2, none⟩) (n - 1) (fun j => t (j + 1)) := fun i hi => by
  obtain ⟨b', off', e, hlt, h0, h1⟩ := h (i + 1) (by omega)
  cases e
  exact ⟨b, off + 2, rfl, hlt, by rw [show off + 2 + i * 2 = off + (i + 1) * 2 by omega]; exact h0, by rw [show off + 2 + i * 2 + 1 = off + (i + 1) * 2 + 1 by omega]; exact h1⟩
theorem Tab.mono {n : Nat} {t : Nat → Mark} (h : Tab n t) : ∀ {i j : Nat}, i ≤ j → j < n → (t i).at_ ≤ (t j).at_
  | i, 0, hi, _ => by obtain rfl : i = 0 := by omega
                      exact Int.le_refl _
  | i, j + 1, hi, hj => by
    by_cases e : i = j + 1
    · subst e; exact Int.le_refl _
    · have := h.mono (i := i) (j := j) (by omega) (by omega)
      have := h.inc j hj
      omega
theorem at_step {n i : Nat} {t : Nat → Mark} {x : Int} (h : Tab n t) (i1 : 1 ≤ i) (i2 : i < n) (i3 : ∀ j, 1 ≤ j → j < i → (t j).at_ < x) (h0 : (t 0).at_ ≤ x) : (t (i - 1)).at_ ≤ x ∧ (t (i - 1)).at_ < (t i).at_ := by
  have h1 := h.inc (i - 1) (by omega)
  rw [show i - 1 + 1 = i by omega] at h1
  refine ⟨?_, h1⟩
  by_cases e : i = 1
  · subst e; exact h0
  · have := i3 (i - 1) (by omega) (by omega); omega
set_option maxHeartbeats 1000000 in
theorem at_any (oa : Option Addr) (n cap : Nat) (t : Nat → Mark) (x : Int) (w : World) (hV : Tab n t) (hT : MarksAt w oa n t) (hcap : n ≤ cap) (h0 : (t 0).at_ ≤ x) (hx : x ≤ (t (n - 1)).at_) :
    Calls Try.prog 84 #[.slice oa n cap, .int .i64 x] w fun e w' => e = .returned (tabAt n t x).val ∧ Below w.heap.size w w' := by
  have hn := hV.two
  have hn2 := hV.few
  obtain ⟨i1, i2, i3, i4⟩ := tabI_spec hn hx
  unfold tabAt
  obtain ⟨i, hi⟩ : ∃ i, i = tabI n t x := ⟨_, rfl⟩
  rw [← hi] at i1 i2 i3 i4 ⊢
  have HT := Lib.hid hT
  have HV := Lib.hid hV
  have I3 := Lib.hid i3
  have hx1 := hV.at1 (n - 1) (by omega)
  clear hT hV i3 hi
  obtain ⟨b, off, rfl, hlt0, -, -⟩ := HT.out 0 (by omega)
  go_enter Try.func84, Try.ntmps84
  go_wp2_with fail
  refine (indexMarks_at _ (n - 1) _ (fun j => t (j + 1)) x _ (i - 1) _ (by omega) (marks_tail ((HT.out.mono (by repeat' (first | exact Below.refl _ _ | assumption | apply below_drewN | apply Below.drew | (refine Below.alloc ?_ ?_ _) | (refine Below.setCell ?_ ?_ _) | (simp; done) | (simp; omega) | omega)))) (by omega)) (by simp <;> omega) (by simp [go_sem]) (by omega) (fun j hj => by have := I3.out (j + 1) (by omega) (by omega); omega) (by rw [show i - 1 + 1 = i by omega]; exact i4)).mono ?_
  rintro e w1 ⟨rfl, hb⟩
  have hb1 : Below w.heap.size w w1 := (Below.trans ((by repeat' (first | exact Below.refl _ _ | assumption | apply below_drewN | apply Below.drew | (refine Below.alloc ?_ ?_ _) | (refine Below.setCell ?_ ?_ _) | (simp; done) | (simp; omega) | omega))) (Below.mono hb (by simp <;> omega)))
  have ei : ((i - 1 : Nat) : Int) + 1 = (i : Int) := by omega
  obtain ⟨b', off', e1, hl1, p0, p1⟩ := (HT.out.mono hb1) (i - 1) (by omega)
  obtain ⟨b'', off'', e2, hl2, q0, q1⟩ := (HT.out.mono hb1) i (by omega)
  cases e1
  cases e2
  have ei2 : ((i : Int) - 1).toNat = i - 1 := by omega
  go_wp2_with fail
  go_cut [6, 7] (fun s6 s7 wx => Below w1.heap.size w1 wx ∧ ∃ g0 g1, s6 = .pointer (some ⟨g0, 0, none⟩) ∧ s7 = .pointer (some ⟨g1, 0, none⟩) ∧ wx.cell? ⟨g0, 0, none⟩ = some (.int .i64 (t (i - 1)).at_) ∧ wx.cell? ⟨g0, 1, none⟩ = some (.int .i64 (t (i - 1)).value) ∧ wx.cell? ⟨g1, 0, none⟩ = some (.int .i64 (t i).at_) ∧ wx.cell? ⟨g1, 1, none⟩ = some (.int .i64 (t i).value))
  case first =>
    go_region
    all_goals
      go_wp2_with fail
      go_meet
      exact ⟨(by repeat' (first | exact Below.refl _ _ | assumption | apply below_drewN | apply Below.drew | (refine Below.alloc ?_ ?_ _) | (refine Below.setCell ?_ ?_ _) | (simp; done) | (simp; omega) | omega)), _, _, rfl, rfl, by simp [go_sem], by simp [go_sem], by simp [go_sem], by simp [go_sem]⟩
  case rest =>
    obtain ⟨hbx, g0, g1, rfl, rfl, a0, a1, z0, z1⟩ := hcut
    have hb2 : Below ((w.alloc (.cells #[.int .i64 x] 3)).alloc (.cells #[.int .i64 0, .int .i64 0] 74)).heap.size ((w.alloc (.cells #[.int .i64 x] 3)).alloc (.cells #[.int .i64 0, .int .i64 0] 74)) wc := hb.trans (hbx.mono hb.size)
    have c0 : wc.cell? ⟨w.heap.size, 0, none⟩ = some (.int .i64 x) := (hb2.cell (p := ⟨w.heap.size, 0, none⟩) (by simp <;> omega)).trans (by simp [go_sem])
    have c1 : wc.cell? ⟨w.heap.size + 1, 0, none⟩ = some (.int .i64 0) := (hb2.cell (p := ⟨w.heap.size + 1, 0, none⟩) (by simp)).trans (by simp [go_sem])
    have c2 : wc.cell? ⟨w.heap.size + 1, 1, none⟩ = some (.int .i64 0) := (hb2.cell (p := ⟨w.heap.size + 1, 1, none⟩) (by simp)).trans (by simp [go_sem])
    have f1 : wc.frozen? ⟨w.heap.size + 1, 0, none⟩ = false := (hb2.frozen (p := ⟨w.heap.size + 1, 0, none⟩) (by simp)).trans (by simp [go_sem])
    have f2 : wc.frozen? ⟨w.heap.size + 1, 1, none⟩ = false := (hb2.frozen (p := ⟨w.heap.size + 1, 1, none⟩) (by simp)).trans (by simp [go_sem])
    have hbw := hb1.trans (hbx.mono hb1.size)
    have hs := hb2.size
    simp at hs
    have d1 := at_step HV.out i1 i2 I3.out h0
    have v1 := HV.out.v0 (i - 1) (by omega)
    have v2 := HV.out.v1 (i - 1) (by omega)
    have v3 := HV.out.v0 i i2
    have v4 := HV.out.v1 i i2
    have d2 := HV.out.at1 i i2
    have d3 := HV.out.at0 (i - 1) (by omega)
    have m1 := mulb (a := (t (i - 1)).value) (b := (t i).at_ - (t (i - 1)).at_) (x := 10000000) (y := 10000) (by omega) (by omega) (by omega) (by omega)
    have m2 := mulsb (a := (t i).value - (t (i - 1)).value) (b := x - (t (i - 1)).at_) (x := 10000000) (y := 10000) (by omega) (by omega) (by omega) (by omega)
    clear hb2 hbx hb1 hb hl1 hl2 p0 p1 q0 q1 ei ei2
    go_wp2_with fail
    have pq := put2 c1 c2 (.int .i64 ((t (i - 1)).value * ((t i).at_ - (t (i - 1)).at_) + ((t i).value - (t (i - 1)).value) * (x - (t (i - 1)).at_))) (.int .i64 ((t i).at_ - (t (i - 1)).at_))
    refine bodyPost_ret (v := .agg #[.int .i64 ((t (i - 1)).value * ((t i).at_ - (t (i - 1)).at_) + ((t i).value - (t (i - 1)).value) * (x - (t (i - 1)).at_)), .int .i64 ((t i).at_ - (t (i - 1)).at_)]) (by simp [results, Try.results84, go_sem, pq.1, pq.2]) rfl ⟨rfl, ?_⟩
    exact (by repeat' (first | exact Below.refl _ _ | assumption | apply below_drewN | apply Below.drew | (refine Below.alloc ?_ ?_ _) | (refine Below.setCell ?_ ?_ _) | (simp; done) | (simp; omega) | omega))
end Go.Proofs.Ythoefcpeagclbaa
