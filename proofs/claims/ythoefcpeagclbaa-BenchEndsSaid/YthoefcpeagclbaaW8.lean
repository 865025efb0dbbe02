/- The document's Catch and At say what the program's right and at say. -/
import Derived.Test.YthoefcpeagclbaaW7
namespace Go.Proofs.Ythoefcpeagclbaa
open Go.RowKit
set_option maxHeartbeats 2000000 in
theorem refCatch_any (b : Bnch) (x : Ctch) (oa : Option Addr) (cap : Nat) (w : World) (h1 : 1 ≤ b.n) (hn : b.n ≤ 1000000) (hT : MarksAt w oa b.n b.t) :
    Calls Try.prog 24 #[b.val oa cap, x.val] w fun e w' => e = .returned (.bool (b.rightB x)) ∧ Below w.heap.size w w' := by
  have HT := Lib.hid hT
  clear hT
  go_enter Try.func24, Try.ntmps24
  go_wp2_with fail
  have HC1 := Lib.hid (two_catch 26 b oa cap x w)
  have hbw1 := two_below 26 b oa cap x w
  obtain ⟨g0, g1, g2, g3, g4, g5, g6, g7⟩ := (two_bench 26 b oa cap x w).cells
  obtain ⟨y0, y1, y2, y3, y4, y5, y6⟩ := CB.cells (x := x) HC1.out
  obtain ⟨W, hW⟩ : ∃ X, X = two 26 b oa cap x w := ⟨_, rfl⟩
  rw [← hW] at HC1 hbw1 g0 g1 g2 g3 g4 g5 g6 g7 y0 y1 y2 y3 y4 y5 y6
  unfold two at hW
  rw [← hW]
  clear hW g2 g3 g4 g5 g6
  obtain ⟨bb, off, rfl, hlt, p0, -⟩ := (HT.out.mono hbw1) 0 (by omega)
  obtain ⟨bb', off', e1, -, q0, -⟩ := (HT.out.mono hbw1) (b.n - 1) (by omega)
  cases e1
  simp only [Nat.zero_mul, Nat.add_zero] at p0
  have ek1 : ((b.n : Int) - 1).toNat = b.n - 1 := by omega
  have ek2 : (0 : Int) ≤ (b.n : Int) - 1 := by omega
  have ek3 : (b.n : Int) - 1 < (b.n : Int) := by omega
  have ek4 : (0 : Int) < (b.n : Int) := by omega
  go_wp2_with fail
  go_big_quiet (fail)
  replace HC1 := Lib.hid (HC1.out.drewN nq)
  replace hbw1 := below_drewN hbw1 nq
  obtain ⟨W1, hW1⟩ : ∃ X, X = W.drewN nq := ⟨_, rfl⟩
  clear y0 y1 y2 y3 y4 y5 y6
  obtain ⟨y0, y1, y2, y3, y4, y5, y6⟩ := CB.cells (x := x) HC1.out
  have g0' : (W.drewN nq).cell? ⟨w.heap.size, 0, none⟩ = some (.bool b.weighs) := by simpa using g0
  rw [← hW1] at HC1 hbw1 y0 y1 y2 y3 y4 y5 y6 g0' ⊢
  clear hW1 p0 q0 g0 g1
  by_cases hw : b.weighs = true
  · have HW := Lib.hid hw
    rw [hw] at g0'
    clear hw
    go_wp2_with fail
    refine (refSpan_any x.beg _ _ _).mono ?_
    rintro e w0 ⟨rfl, hb⟩
    have HC2 := Lib.hid (HC1.out.below hb)
    have hbw2 := hbw1.trans (hb.mono hbw1.size)
    clear y0 y1 y2 y3 y4 y5 y6 hb
    obtain ⟨y0, y1, y2, y3, y4, y5, y6⟩ := CB.cells (x := x) HC2.out
    by_cases c0 : spanB x.beg 0 10000000 = true
    case neg =>
      replace c0 : spanB x.beg 0 10000000 = false := by simpa using c0
      go_wp2_with fail
      go_ret
      exact ⟨ret_bool (by simp [Bnch.rightB, HW.out, Bnch.scaleOk, Bnch.first, Bnch.last, c0]), hbw2⟩
    go_wp2_with fail
    refine (refSpan_any x.fin _ _ _).mono ?_
    rintro e w1 ⟨rfl, hb⟩
    have HC3 := Lib.hid (HC2.out.below hb)
    have hbw3 := hbw2.trans (hb.mono hbw2.size)
    clear y0 y1 y2 y3 y4 y5 y6 hb
    obtain ⟨y0, y1, y2, y3, y4, y5, y6⟩ := CB.cells (x := x) HC3.out
    by_cases c1 : spanB x.fin 0 10000000 = true
    case neg =>
      replace c1 : spanB x.fin 0 10000000 = false := by simpa using c1
      go_wp2_with fail
      go_ret
      exact ⟨ret_bool (by simp [Bnch.rightB, HW.out, Bnch.scaleOk, Bnch.first, Bnch.last, c0, c1]), hbw3⟩
    go_wp2_with fail
    refine (refSpan_any x.warm _ _ _).mono ?_
    rintro e w2 ⟨rfl, hb⟩
    have HC4 := Lib.hid (HC3.out.below hb)
    have hbw4 := hbw3.trans (hb.mono hbw3.size)
    clear y0 y1 y2 y3 y4 y5 y6 hb
    obtain ⟨y0, y1, y2, y3, y4, y5, y6⟩ := CB.cells (x := x) HC4.out
    go_wp2_with fail
    go_ret
    exact ⟨ret_bool (by simp [Bnch.rightB, HW.out, Bnch.scaleOk, Bnch.first, Bnch.last, c0, c1]), hbw4⟩
  · replace hw : b.weighs = false := by simpa using hw
    have HW := Lib.hid hw
    rw [hw] at g0'
    clear hw
    go_wp2_with fail
    refine (refSpan_any x.beg _ _ _).mono ?_
    rintro e w0 ⟨rfl, hb⟩
    have HC2 := Lib.hid (HC1.out.below hb)
    have hbw2 := hbw1.trans (hb.mono hbw1.size)
    clear y0 y1 y2 y3 y4 y5 y6 hb
    obtain ⟨y0, y1, y2, y3, y4, y5, y6⟩ := CB.cells (x := x) HC2.out
    by_cases c0 : spanB x.beg (b.t 0).at_ (b.t (b.n - 1)).at_ = true
    case neg =>
      replace c0 : spanB x.beg (b.t 0).at_ (b.t (b.n - 1)).at_ = false := by simpa using c0
      go_wp2_with fail
      go_ret
      exact ⟨ret_bool (by simp [Bnch.rightB, HW.out, Bnch.tankOk, Bnch.first, Bnch.last, c0]), hbw2⟩
    go_wp2_with fail
    refine (refSpan_any x.fin _ _ _).mono ?_
    rintro e w1 ⟨rfl, hb⟩
    have HC3 := Lib.hid (HC2.out.below hb)
    have hbw3 := hbw2.trans (hb.mono hbw2.size)
    clear y0 y1 y2 y3 y4 y5 y6 hb
    obtain ⟨y0, y1, y2, y3, y4, y5, y6⟩ := CB.cells (x := x) HC3.out
    go_wp2_with fail
    go_ret
    exact ⟨ret_bool (by simp [Bnch.rightB, HW.out, Bnch.tankOk, Bnch.first, Bnch.last, c0]), hbw3⟩
end Go.Proofs.Ythoefcpeagclbaa
