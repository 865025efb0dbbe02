/- What goes through is within bounds; plain, no program in sight. -/
import Derived.Test.YthoefcpeagclbaaW14
namespace Go.Proofs.Ythoefcpeagclbaa
def Bnch.waterF (b : Bnch) (x : Ctch) : Frac × Frac × Bool := if b.weighs then b.scaleW x else b.tankW x
def Bnch.waterR (b : Bnch) (x : Ctch) : Spn × Int :=
  if b.valid then
    if b.rightB x then
      if (b.waterF x).2.2 && decide ((b.waterF x).1.under ≤ (b.waterF x).1.top) then (⟨(b.waterF x).1.down + b.air.lo, (b.waterF x).2.1.up + b.air.hi⟩, 0) else (⟨0, 0⟩, 10)
    else (⟨0, 0⟩, 2)
  else (⟨0, 0⟩, 1)
/-- rounding by its side -/
def rnd (s t u : Int) : Int := if s = 0 then t / u else -((-t) / u)
theorem round_tu (t u s : Int) (w : Go.World) (hs : s = 0 ∨ s = 1) (hu : 0 < u) (h : -4000000000000000000 ≤ t ∧ t ≤ 4000000000000000000) :
    Go.Calls Try.prog 35 #[.agg #[.int .i64 t, .int .i64 u], .int .i64 s] w fun e w' => e = .returned (.int .i64 (rnd s t u)) ∧ Go.RowKit.Below w.heap.size w w' := by
  rcases hs with rfl | rfl
  · exact round_down ⟨t, u⟩ w hu h
  · exact round_up ⟨t, u⟩ w hu h
theorem waterR_no {b : Bnch} {x : Ctch} (hv : b.valid = true) (hr : b.rightB x = true) (hs : ¬ ((b.waterF x).2.2 && decide ((b.waterF x).1.under ≤ (b.waterF x).1.top)) = true) : b.waterR x = (⟨0, 0⟩, 10) := by
  unfold Bnch.waterR
  rw [if_pos hv, if_pos hr, if_neg hs]
theorem waterR_yes {b : Bnch} {x : Ctch} (hv : b.valid = true) (hr : b.rightB x = true) (hs : ((b.waterF x).2.2 && decide ((b.waterF x).1.under ≤ (b.waterF x).1.top)) = true) : b.waterR x = (⟨(b.waterF x).1.down + b.air.lo, (b.waterF x).2.1.up + b.air.hi⟩, 0) := by
  unfold Bnch.waterR
  rw [if_pos hv, if_pos hr, if_pos hs]
/-- a fraction that is not too great -/
structure Frac.Ok (f : Frac) : Prop where
  u0 : 0 < f.under
  u1 : f.under ≤ 100000000000
  t0 : -50000000000000 * f.under ≤ f.top
  t1 : f.top ≤ 50000000000000 * f.under
  t2 : -4000000000000000000 ≤ f.top ∧ f.top ≤ 4000000000000000000
theorem Frac.Ok.down {f : Frac} (h : f.Ok) : -50000000000000 ≤ f.down ∧ f.down ≤ 50000000000000 := by
  constructor
  · exact (Int.le_ediv_iff_mul_le h.u0).2 h.t0
  · have := h.t1
    have h1 := h.u0
    have : f.top / f.under < 50000000000000 + 1 := (Int.ediv_lt_iff_lt_mul h.u0).2 (by rw [Int.add_mul]; omega)
    unfold Frac.down; omega
theorem Frac.Ok.up {f : Frac} (h : f.Ok) : -50000000000000 ≤ f.up ∧ f.up ≤ 50000000000000 := by
  have h1 := h.u0
  have a : -50000000000000 ≤ (-f.top) / f.under := (Int.le_ediv_iff_mul_le h.u0).2 (by have := h.t1; omega)
  have b : (-f.top) / f.under < 50000000000000 + 1 := (Int.ediv_lt_iff_lt_mul h.u0).2 (by have := h.t0; rw [Int.add_mul]; omega)
  unfold Frac.up; omega
theorem scale_ok {g y : Int} {d : Frac} (hd : Dense d) (hg : 0 < g ∧ g ≤ 30000000) (hy : 0 ≤ y ∧ y ≤ 10000) : Frac.Ok ⟨g * (1000000 + y) * d.under, d.top⟩ := by
  have u0 := hd.u0
  have u1 := hd.u1
  have u2 := hd.t0
  have u3 := hd.t1
  have m1 := mulb (a := g) (b := 1000000 + y) (x := 30000000) (y := 1010000) (by omega) (by omega) (by omega) (by omega)
  have m2 := mulb (a := g * (1000000 + y)) (b := d.under) (x := 30000000 * 1010000) (y := 10000) m1.1 m1.2 (by omega) (by omega)
  have m3 : g * (1000000 + y) * d.under ≤ 30000000 * 1010000 * d.top := Int.mul_le_mul m1.2 u2 (by omega) (by omega)
  refine ⟨?_, ?_, ?_, ?_, ?_⟩ <;> dsimp only <;> omega
theorem tank_ok {a b : Frac} (ha : Dense a) (hb : Dense b) {n : Int} (hn : -20000000 ≤ n ∧ n ≤ 20000000) : Frac.Ok (a.minus b n) := by
  have a1 := ha.u0
  have a2 := ha.u1
  have a3 := ha.t0
  have a4 := ha.t1
  have b1 := hb.u0
  have b2 := hb.u1
  have b3 := hb.t0
  have b4 := hb.t1
  obtain ⟨q1, q2, q3, q4, q5⟩ := minus_bd ha hb hn
  have p0 : 0 < a.under * b.under := Int.mul_pos a1 b1
  have p1 := mulb (a := a.under) (b := b.under) (x := 10000) (y := 10000) (by omega) (by omega) (by omega) (by omega)
  have m1 : a.top * b.under ≤ 10000000 * a.under * b.under := Int.mul_le_mul_of_nonneg_right a4 (by omega)
  have m2 : b.top * a.under ≤ 10000000 * b.under * a.under := Int.mul_le_mul_of_nonneg_right b4 (by omega)
  have m3 : 0 ≤ a.top * b.under := Int.mul_nonneg (by omega) (by omega)
  have m4 : 0 ≤ b.top * a.under := Int.mul_nonneg (by omega) (by omega)
  have e1 : n * a.under * b.under = n * (a.under * b.under) := Int.mul_assoc _ _ _
  have e2 : 10000000 * a.under * b.under = 10000000 * (a.under * b.under) := Int.mul_assoc _ _ _
  have e3 : 10000000 * b.under * a.under = 10000000 * (a.under * b.under) := by rw [Int.mul_assoc, Int.mul_comm b.under]
  have m5 : n * (a.under * b.under) ≤ 20000000 * (a.under * b.under) := Int.mul_le_mul_of_nonneg_right hn.2 (by omega)
  have m6 : -20000000 * (a.under * b.under) ≤ n * (a.under * b.under) := Int.mul_le_mul_of_nonneg_right hn.1 (by omega)
  refine ⟨?_, ?_, ?_, ?_, ?_⟩ <;> simp only [Frac.minus] <;> omega
theorem water_ok {b : Bnch} {x : Ctch} (hv : b.valid = true) (hr : b.rightB x = true) (hi : (b.waterF x).2.2 = true) : (b.waterF x).1.Ok ∧ (b.waterF x).2.1.Ok := by
  have hV := valid_tab hv
  obtain ⟨-, hn1, hn2, ho, hbu, hai⟩ := valid_all hv
  unfold Bnch.waterF at hi ⊢
  unfold Bnch.rightB at hr
  by_cases hw : b.weighs = true
  · rw [if_pos hw] at hi hr ⊢
    simp only [Bnch.scaleOk, spanB, Bool.and_eq_true, decide_eq_true_eq] at hr
    obtain ⟨⟨hx1, hx2⟩, hx3⟩ := hr
    unfold Bnch.scaleW at hi ⊢
    by_cases hl : b.light x ≤ 0
    · rw [if_pos hl] at hi; cases hi
    · rw [if_neg hl]
      have d0 := at_dense hV hx3.1 (Int.le_trans hx3.2.1 hx3.2.2)
      have da := ext_dense hV hx3.1 hx3.2.1 hx3.2.2
      have DT : Dense (b.thin x) := bestN_dense (better := Frac.lt) (t := extF b.n b.t x.warm) d0 da
      have DK : Dense (b.thick x) := bestN_dense (better := fun a b => Frac.lt b a) (t := extF b.n b.t x.warm) d0 da
      have e1 : b.light x = x.fin.lo - x.beg.hi - 2 * b.off := rfl
      have e2 : b.heavy x = x.fin.hi - x.beg.lo + 2 * b.off := rfl
      exact ⟨scale_ok DK (by omega) (by omega), scale_ok DT (by omega) (by omega)⟩
  · rw [if_neg hw] at hi hr ⊢
    have hr : ((b.t 0).at_ ≤ x.beg.lo ∧ x.beg.lo ≤ x.beg.hi ∧ x.beg.hi ≤ (b.t (b.n - 1)).at_) ∧ ((b.t 0).at_ ≤ x.fin.lo ∧ x.fin.lo ≤ x.fin.hi ∧ x.fin.hi ≤ (b.t (b.n - 1)).at_) := by
      simp only [Bnch.tankOk, spanB, Bool.and_eq_true, decide_eq_true_eq] at hr
      exact hr
    obtain ⟨⟨p1, p2, p3⟩, p4, p5, p6⟩ := hr
    exact ⟨tank_ok (at_dense hV p4 (Int.le_trans p5 p6)) (at_dense hV (Int.le_trans p1 p2) p3) (by omega), tank_ok (at_dense hV (Int.le_trans p4 p5) p6) (at_dense hV p1 (Int.le_trans p2 p3)) (by omega)⟩
end Go.Proofs.Ythoefcpeagclbaa
