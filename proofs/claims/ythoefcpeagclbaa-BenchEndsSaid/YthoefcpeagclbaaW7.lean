/- A catch is right for a valid bench, as the program and the document say. -/
import Derived.Test.YthoefcpeagclbaaW6
namespace Go.Proofs.Ythoefcpeagclbaa
open Go.RowKit
theorem valid_all {b : Bnch} (h : b.valid = true) : (∀ i, i < b.n → markOk b.weighs b.t i = true) ∧ 2 ≤ b.n ∧ b.n ≤ 12 ∧ (0 ≤ b.off ∧ b.off ≤ 10000000) ∧ (0 ≤ b.buoy.lo ∧ b.buoy.lo ≤ b.buoy.hi ∧ b.buoy.hi ≤ 10000) ∧ (0 ≤ b.air.lo ∧ b.air.lo ≤ b.air.hi ∧ b.air.hi ≤ 10000000) := by
  simp only [Bnch.valid, Bool.and_eq_true, withinB, spanB, decide_eq_true_eq] at h
  exact ⟨allB_iff.1 h.1, by omega, by omega, by omega, by omega, by omega⟩
theorem valid_tab {b : Bnch} (h : b.valid = true) : Tab b.n b.t := by
  obtain ⟨h0, h1, h2, -⟩ := valid_all h
  have hk : ∀ i, i < b.n → (0 ≤ (b.t i).at_ ∧ (b.t i).at_ ≤ 10000) ∧ (1 ≤ (b.t i).value ∧ (b.t i).value ≤ 10000000) ∧ (i = 0 ∨ (b.t (i - 1)).at_ < (b.t i).at_) := fun i hi => by
    have := h0 i hi
    simp only [markOk, Bool.and_eq_true, Bool.or_eq_true, withinB, decide_eq_true_eq] at this
    exact ⟨this.1.1, this.1.2, this.2.imp id (fun h => h.1)⟩
  exact ⟨h1, h2, fun i hi => by
    rcases (hk (i + 1) hi).2.2 with h | h
    · omega
    · simpa using h, fun i hi => (hk i hi).1.1, fun i hi => (hk i hi).1.2, fun i hi => (hk i hi).2.1.1, fun i hi => (hk i hi).2.1.2⟩
theorem valid_rise {b : Bnch} (h : b.valid = true) (hw : b.weighs = false) : ∀ i, i + 1 < b.n → (b.t i).value ≤ (b.t (i + 1)).value := fun i hi => by
  have := (valid_all h).1 (i + 1) hi
  simp only [markOk, Bool.and_eq_true, Bool.or_eq_true, withinB, decide_eq_true_eq, hw] at this
  rcases this.2 with h | h
  · omega
  · simpa using h.2
/-- the first and the last number of a table -/
def Bnch.first (b : Bnch) : Int := (b.t 0).at_
def Bnch.last (b : Bnch) : Int := (b.t (b.n - 1)).at_
def Bnch.scaleOk (b : Bnch) (x : Ctch) : Bool := spanB x.beg 0 10000000 && spanB x.fin 0 10000000 && spanB x.warm b.first b.last
def Bnch.tankOk (b : Bnch) (x : Ctch) : Bool := spanB x.beg b.first b.last && spanB x.fin b.first b.last
def Bnch.rightB (b : Bnch) (x : Ctch) : Bool := if b.weighs then b.scaleOk x else b.tankOk x
set_option maxHeartbeats 400000 in
theorem ends_any (b : Bnch) (oa : Option Addr) (cap : Nat) (w : World) (h1 : 1 ≤ b.n) (hn : b.n ≤ 1000000) (hT : MarksAt w oa b.n b.t) :
    Calls Try.prog 77 #[.slice oa b.n cap] w fun e w' => e = .returned (.tuple #[.int .i64 b.first, .int .i64 b.last]) ∧ Below w.heap.size w w' := by
  have HT := Lib.hid hT
  clear hT
  obtain ⟨bb, off, rfl, hlt, p0, -⟩ := HT.out 0 (by omega)
  obtain ⟨bb', off', e1, -, q0, -⟩ := HT.out (b.n - 1) (by omega)
  cases e1
  simp only [Nat.zero_mul, Nat.add_zero] at p0
  have ek1 : ((b.n : Int) - 1).toNat = b.n - 1 := by omega
  have ek2 : (0 : Int) ≤ (b.n : Int) - 1 := by omega
  have ek3 : (b.n : Int) - 1 < (b.n : Int) := by omega
  have ek4 : (0 : Int) < (b.n : Int) := by omega
  go_enter Try.func77, Try.ntmps77
  go_wp2_with fail
  go_big_quiet (fail)
  go_wp2_with fail
  refine bodyPost_ret (results_tmp2 rfl _ _ _) rfl ⟨rfl, (by repeat' (first | exact Below.refl _ _ | assumption | apply below_drewN | apply Below.drew | (refine Below.alloc ?_ ?_ _) | (refine Below.setCell ?_ ?_ _) | (simp; done) | (simp; omega) | omega))⟩
set_option maxHeartbeats 1000000 in
theorem scaleRight_any (b : Bnch) (x : Ctch) (oa : Option Addr) (cap : Nat) (w : World) (h1 : 1 ≤ b.n) (hn : b.n ≤ 1000000) (hT : MarksAt w oa b.n b.t) :
    Calls Try.prog 75 #[b.val oa cap, x.val] w fun e w' => e = .returned (.bool (b.scaleOk x)) ∧ Below w.heap.size w w' := by
  have HT := Lib.hid hT
  clear hT
  go_enter Try.func75, Try.ntmps75
  go_wp2_with fail
  have HC := Lib.hid (two_catch 99 b oa cap x w)
  have hbw := two_below 99 b oa cap x w
  refine (ends_any b oa cap _ h1 hn (HT.out.mono hbw)).mono ?_
  rintro e wa ⟨rfl, hb1⟩
  have HC1 := Lib.hid (HC.out.below hb1)
  have hbw1 := hbw.trans (hb1.mono hbw.size)
  obtain ⟨y0, y1, y2, y3, y4, y5, y6⟩ := CB.cells (x := x) HC1.out
  clear hb1 hbw HC
  go_wp2_with fail
  refine (isSpan_any x.beg _ _ _).mono ?_
  rintro e w0 ⟨rfl, hb⟩
  have HC2 := Lib.hid (HC1.out.below hb)
  have hbw2 := hbw1.trans (hb.mono hbw1.size)
  clear y0 y1 y2 y3 y4 y5 y6 hb
  obtain ⟨y0, y1, y2, y3, y4, y5, y6⟩ := CB.cells (x := x) HC2.out
  by_cases c0 : spanB x.beg 0 10000000 = true
  case neg =>
    replace c0 : spanB x.beg 0 10000000 = false := by simpa using c0
    go_wp2_with fail
    go_ret
    exact ⟨ret_bool (by simp [Bnch.scaleOk, c0]), hbw2⟩
  go_wp2_with fail
  refine (isSpan_any x.fin _ _ _).mono ?_
  rintro e w1 ⟨rfl, hb⟩
  have HC3 := Lib.hid (HC2.out.below hb)
  have hbw3 := hbw2.trans (hb.mono hbw2.size)
  clear y0 y1 y2 y3 y4 y5 y6 hb
  obtain ⟨y0, y1, y2, y3, y4, y5, y6⟩ := CB.cells (x := x) HC3.out
  by_cases c1 : spanB x.fin 0 10000000 = true
  case neg =>
    replace c1 : spanB x.fin 0 10000000 = false := by simpa using c1
    go_wp2_with fail
    go_ret
    exact ⟨ret_bool (by simp [Bnch.scaleOk, c0, c1]), hbw3⟩
  go_wp2_with fail
  refine (isSpan_any x.warm _ _ _).mono ?_
  rintro e w2 ⟨rfl, hb⟩
  have HC4 := Lib.hid (HC3.out.below hb)
  have hbw4 := hbw3.trans (hb.mono hbw3.size)
  clear y0 y1 y2 y3 y4 y5 y6 hb
  obtain ⟨y0, y1, y2, y3, y4, y5, y6⟩ := CB.cells (x := x) HC4.out
  go_wp2_with fail
  go_ret
  exact ⟨ret_bool (by simp [Bnch.scaleOk, c0, c1]), hbw4⟩
set_option maxHeartbeats 1000000 in
theorem tankRight_any (b : Bnch) (x : Ctch) (oa : Option Addr) (cap : Nat) (w : World) (h1 : 1 ≤ b.n) (hn : b.n ≤ 1000000) (hT : MarksAt w oa b.n b.t) :
    Calls Try.prog 87 #[b.val oa cap, x.val] w fun e w' => e = .returned (.bool (b.tankOk x)) ∧ Below w.heap.size w w' := by
  have HT := Lib.hid hT
  clear hT
  go_enter Try.func87, Try.ntmps87
  go_wp2_with fail
  have HC := Lib.hid (two_catch 100 b oa cap x w)
  have hbw := two_below 100 b oa cap x w
  refine (ends_any b oa cap _ h1 hn (HT.out.mono hbw)).mono ?_
  rintro e wa ⟨rfl, hb1⟩
  have HC1 := Lib.hid (HC.out.below hb1)
  have hbw1 := hbw.trans (hb1.mono hbw.size)
  obtain ⟨y0, y1, y2, y3, y4, y5, y6⟩ := CB.cells (x := x) HC1.out
  clear hb1 hbw HC
  go_wp2_with fail
  refine (isSpan_any x.beg _ _ _).mono ?_
  rintro e w0 ⟨rfl, hb⟩
  have HC2 := Lib.hid (HC1.out.below hb)
  have hbw2 := hbw1.trans (hb.mono hbw1.size)
  clear y0 y1 y2 y3 y4 y5 y6 hb
  obtain ⟨y0, y1, y2, y3, y4, y5, y6⟩ := CB.cells (x := x) HC2.out
  by_cases c0 : spanB x.beg b.first b.last = true
  case neg =>
    replace c0 : spanB x.beg b.first b.last = false := by simpa using c0
    go_wp2_with fail
    go_ret
    exact ⟨ret_bool (by simp [Bnch.tankOk, c0]), hbw2⟩
  go_wp2_with fail
  refine (isSpan_any x.fin _ _ _).mono ?_
  rintro e w1 ⟨rfl, hb⟩
  have HC3 := Lib.hid (HC2.out.below hb)
  have hbw3 := hbw2.trans (hb.mono hbw2.size)
  clear y0 y1 y2 y3 y4 y5 y6 hb
  obtain ⟨y0, y1, y2, y3, y4, y5, y6⟩ := CB.cells (x := x) HC3.out
  go_wp2_with fail
  go_ret
  exact ⟨ret_bool (by simp [Bnch.tankOk, c0]), hbw3⟩
end Go.Proofs.Ythoefcpeagclbaa
