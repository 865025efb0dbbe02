/- The document's water of a tank: the least one. -/
import Derived.Test.YthoefcpeagclbaaW15
import Derived.Test.YthoefcpeagclbaaP2
import Derived.Deep.Light
namespace Go.Proofs.Ythoefcpeagclbaa
open Go.RowKit
theorem lessOne_any (t u : Int) (w : World) (h1 : -4000000000000000000 ≤ t ∧ t ≤ 4000000000000000000) (h2 : -4000000000000000000 ≤ u ∧ u ≤ 4000000000000000000) :
    Calls Try.prog 30 #[.agg #[.int .i64 t, .int .i64 u], .agg #[.int .i64 1, .int .i64 1]] w fun e w' => e = .returned (.bool (decide (t < u))) ∧ Below w.heap.size w w' := by
  have h := less_any ⟨t, u⟩ ⟨1, 1⟩ w (by simpa using h1) (by simpa using h2)
  simpa using h
theorem refAtF_any (fl : Bool) (b : Bnch) (oa : Option Addr) (cap : Nat) (x : Int) (w : World) (hV : Tab b.n b.t) (hT : MarksAt w oa b.n b.t) (h0 : (b.t 0).at_ ≤ x) (hx : x ≤ (b.t (b.n - 1)).at_) :
    Calls Try.prog 52 #[.agg #[.bool fl, .slice oa b.n cap, .int .i64 b.off, .int .i64 b.buoy.lo, .int .i64 b.buoy.hi, .int .i64 b.air.lo, .int .i64 b.air.hi], .int .i64 x] w fun e w' => e = .returned (tabAt b.n b.t x).val ∧ Below w.heap.size w w' := refAt_any ⟨fl, b.off, b.buoy, b.air, b.n, b.t⟩ oa cap x w hV hT h0 hx
set_option maxRecDepth 100000 in
set_option maxHeartbeats 8000000 in
theorem refTank_any (b : Bnch) (x : Ctch) (oa : Option Addr) (cap : Nat) (w : World) (hv : b.valid = true) (hw : b.weighs = false) (hx : b.tankOk x = true) (hT : MarksAt w oa b.n b.t) :
    Calls Try.prog 36 #[b.val oa cap, x.val] w fun e w' => e = .returned (.tuple #[(b.tankW x).1.val, (b.tankW x).2.1.val, .bool (decide ((b.tankW x).1.under ≤ (b.tankW x).1.top))]) ∧ Below w.heap.size w w' := by
  have hV := valid_tab hv
  obtain ⟨-, hn1, hn2, ho, hbu, hai⟩ := valid_all hv
  have hx : ((b.t 0).at_ ≤ x.beg.lo ∧ x.beg.lo ≤ x.beg.hi ∧ x.beg.hi ≤ (b.t (b.n - 1)).at_) ∧ ((b.t 0).at_ ≤ x.fin.lo ∧ x.fin.lo ≤ x.fin.hi ∧ x.fin.hi ≤ (b.t (b.n - 1)).at_) := by
    simp only [Bnch.tankOk, spanB, Bool.and_eq_true, decide_eq_true_eq] at hx
    exact hx
  obtain ⟨⟨p1, p2, p3⟩, p4, p5, p6⟩ := hx
  have p7 := Int.le_trans p1 p2
  have p8 := Int.le_trans p4 p5
  have p9 := Int.le_trans p2 p3
  have p10 := Int.le_trans p5 p6
  have M := Lib.hid (minus_bd (at_dense hV p4 p10) (at_dense hV p7 p3) (n := 2 * b.off) (by omega))
  have M2 := Lib.hid (minus_bd (at_dense hV p8 p6) (at_dense hV p1 p9) (n := -2 * b.off) (by omega))
  have HT := Lib.hid hT
  have HV := Lib.hid hV
  have HW := Lib.hid hw
  clear hT hV hv hw
  have hw1 : IntKind.i64.wrap (2 * b.off) = 2 * b.off := IntWalk.i64_in _ (by omega)
  have hw2 : IntKind.i64.wrap (-2 * b.off) = -2 * b.off := IntWalk.i64_in _ (by omega)
  go_enter Try.func36, Try.ntmps36
  go_upto_region 1 with fail
  have HB := Lib.hid (four_bench 26 50 b oa cap x w)
  have HC := Lib.hid (four_catch 26 50 b oa cap x w)
  have HL := Lib.hid (four_low 26 50 b oa cap x w)
  have HH := Lib.hid (four_high 26 50 b oa cap x w)
  have hbw := four_below 26 50 b oa cap x w
  obtain ⟨W, hW⟩ : ∃ X, X = four 26 50 b oa cap x w := ⟨_, rfl⟩
  rw [← hW] at HB HC HL HH hbw
  unfold four two at hW
  rw [← hW]
  clear hW
  obtain ⟨b0, b1, b2, b3, b4, b5, b6, b7⟩ := BB.cells (b := b) HB.out
  obtain ⟨c0, c1, c2, c3, -, -, c6⟩ := CB.cells (x := x) HC.out
  rw [HW.out] at b0
  go_upto_region 2 with fail
  go_cut [7] from 18 to 31 (fun s7 wx => Below W.heap.size W wx ∧ ∃ g, W.heap.size ≤ g ∧ s7 = .pointer (some ⟨g, 0, none⟩) ∧ PC g ((tabAt b.n b.t x.fin.lo).minus (tabAt b.n b.t x.beg.hi) (2 * b.off)) wx)
  case first =>
    go_region_held3 (fun w' => w'.cell? ⟨w.heap.size, 0, none⟩ = some (.bool false) ∧ w'.cell? ⟨w.heap.size, 1, none⟩ = some (.slice oa b.n cap) ∧ w'.cell? ⟨w.heap.size, 2, none⟩ = some (.int .i64 b.off) ∧ w'.cell? ⟨w.heap.size, 3, none⟩ = some (.int .i64 b.buoy.lo) ∧ w'.cell? ⟨w.heap.size, 4, none⟩ = some (.int .i64 b.buoy.hi) ∧ w'.cell? ⟨w.heap.size, 5, none⟩ = some (.int .i64 b.air.lo) ∧ w'.cell? ⟨w.heap.size, 6, none⟩ = some (.int .i64 b.air.hi) ∧ w'.cell? ⟨w.heap.size + 1, 1, none⟩ = some (.int .i64 x.beg.hi) ∧ w'.cell? ⟨w.heap.size + 1, 2, none⟩ = some (.int .i64 x.fin.lo)) ((refine ⟨(Below.cell (p := ⟨w.heap.size, 0, none⟩) (w := W) ?_ b7).trans b0, (Below.cell (p := ⟨w.heap.size, 1, none⟩) (w := W) ?_ b7).trans b1, (Below.cell (p := ⟨w.heap.size, 2, none⟩) (w := W) ?_ b7).trans b2, (Below.cell (p := ⟨w.heap.size, 3, none⟩) (w := W) ?_ b7).trans b3, (Below.cell (p := ⟨w.heap.size, 4, none⟩) (w := W) ?_ b7).trans b4, (Below.cell (p := ⟨w.heap.size, 5, none⟩) (w := W) ?_ b7).trans b5, (Below.cell (p := ⟨w.heap.size, 6, none⟩) (w := W) ?_ b7).trans b6, (Below.cell (p := ⟨w.heap.size + 1, 1, none⟩) (w := W) ?_ c6).trans c1, (Below.cell (p := ⟨w.heap.size + 1, 2, none⟩) (w := W) ?_ c6).trans c2⟩ <;> (repeat' (first | assumption | exact Below.refl _ _ | apply Below.drew | (refine Below.setCell ?_ (by dsimp only; omega) _) | (refine Below.alloc ?_ (by first | omega | (simp; done) | (simp; omega)) _))))) (first | ((go_at_call 55; refine (refLess_any (tabAt b.n b.t x.fin.lo) (tabAt b.n b.t x.beg.hi) (2 * b.off) _ M.out.1 M.out.2.1 M.out.2.2.1 M.out.2.2.2.1 M.out.2.2.2.2).mono ?_; rintro e w9 ⟨rfl, hb9⟩; have hp9 : Below W.heap.size W w9 := Below.trans (by repeat' (first | assumption | exact Below.refl _ _ | apply Below.drew | (refine Below.setCell ?_ (by dsimp only; omega) _) | (refine Below.alloc ?_ (by first | omega | (simp; done) | (simp; omega)) _))) (hb9.mono (by first | omega | (simp; done) | (simp; omega))); have hp9s := hp9.size; have hs9 := hb9.size; (try simp at hs9); (try have hs9l : w8.heap.size < w9.heap.size := hs9); have hs9k : w8.heap.size ≤ w9.heap.size := (by omega); (try have hs9n := Nat.ne_of_lt hs9l); (try have hs9m := Ne.symm hs9n); (try have ha9 := Nat.lt_of_lt_of_le ha8 hs9k); (try have hb9' := Nat.lt_of_lt_of_le hs8l hs9k); (try have ha9n := Nat.ne_of_lt ha9); (try have hb9n := Nat.ne_of_lt hb9'); (try have ha9m := Ne.symm ha9n); (try have hb9m := Ne.symm hb9n); have x0 := hb9.cell (p := ⟨W.heap.size, 0, none⟩); have xf0 := hb9.frozen (p := ⟨W.heap.size, 0, none⟩); (try simp [go_sem] at x0); (try simp [go_sem] at xf0); have x1 := hb9.cell (p := ⟨W.heap.size, 1, none⟩); have xf1 := hb9.frozen (p := ⟨W.heap.size, 1, none⟩); (try simp [go_sem] at x1); (try simp [go_sem] at xf1); have x2 := hb9.cell (p := ⟨w7.heap.size, 0, none⟩); have xf2 := hb9.frozen (p := ⟨w7.heap.size, 0, none⟩); (try simp [go_sem] at x2); (try simp [go_sem] at xf2); have x3 := hb9.cell (p := ⟨w7.heap.size, 1, none⟩); have xf3 := hb9.frozen (p := ⟨w7.heap.size, 1, none⟩); (try simp [go_sem] at x3); (try simp [go_sem] at xf3); have x4 := hb9.cell (p := ⟨w8.heap.size, 0, none⟩); have xf4 := hb9.frozen (p := ⟨w8.heap.size, 0, none⟩); (try simp [go_sem] at x4); (try simp [go_sem] at xf4); have x5 := hb9.cell (p := ⟨w8.heap.size, 1, none⟩); have xf5 := hb9.frozen (p := ⟨w8.heap.size, 1, none⟩); (try simp [go_sem] at x5); (try simp [go_sem] at xf5))) | ((go_at_call 52; have hq7 := hb7.size; refine (refAtF_any false b oa cap _ _ HV.out (HT.out.mono (hbw.trans (Below.mono (by repeat' (first | assumption | exact Below.refl _ _ | apply Below.drew | (refine Below.setCell ?_ (by dsimp only; omega) _) | (refine Below.alloc ?_ (by first | omega | (simp; done) | (simp; omega)) _))) hbw.size))) (by assumption) (by assumption)).mono ?_; rintro e w8 ⟨rfl, hb8⟩; have hp8 : Below W.heap.size W w8 := Below.trans (by repeat' (first | assumption | exact Below.refl _ _ | apply Below.drew | (refine Below.setCell ?_ (by dsimp only; omega) _) | (refine Below.alloc ?_ (by first | omega | (simp; done) | (simp; omega)) _))) (hb8.mono (by first | omega | (simp; done) | (simp; omega))); have hp8s := hp8.size; have hs8 := hb8.size; (try simp at hs8); (try have hs8l : w7.heap.size < w8.heap.size := hs8); have hs8k : w7.heap.size ≤ w8.heap.size := (by omega); (try have hs8n := Nat.ne_of_lt hs8l); (try have hs8m := Ne.symm hs8n); (try have ha8 := Nat.lt_of_lt_of_le hs7l hs8k); (try have ha8n := Nat.ne_of_lt ha8); (try have ha8m := Ne.symm ha8n); have y0 := hb8.cell (p := ⟨W.heap.size, 0, none⟩); have yf0 := hb8.frozen (p := ⟨W.heap.size, 0, none⟩); (try simp [go_sem] at y0); (try simp [go_sem] at yf0); have y1 := hb8.cell (p := ⟨W.heap.size, 1, none⟩); have yf1 := hb8.frozen (p := ⟨W.heap.size, 1, none⟩); (try simp [go_sem] at y1); (try simp [go_sem] at yf1); have y2 := hb8.cell (p := ⟨w7.heap.size, 0, none⟩); have yf2 := hb8.frozen (p := ⟨w7.heap.size, 0, none⟩); (try simp [go_sem] at y2); (try simp [go_sem] at yf2); have y3 := hb8.cell (p := ⟨w7.heap.size, 1, none⟩); have yf3 := hb8.frozen (p := ⟨w7.heap.size, 1, none⟩); (try simp [go_sem] at y3); (try simp [go_sem] at yf3))) | ((go_at_call 52; refine (refAtF_any false b oa cap _ _ HV.out (HT.out.mono (hbw.trans (Below.mono (by repeat' (first | assumption | exact Below.refl _ _ | apply Below.drew | (refine Below.setCell ?_ (by dsimp only; omega) _) | (refine Below.alloc ?_ (by first | omega | (simp; done) | (simp; omega)) _))) hbw.size))) (by assumption) (by assumption)).mono ?_; rintro e w7 ⟨rfl, hb7⟩; have hp7 : Below W.heap.size W w7 := Below.trans (by repeat' (first | assumption | exact Below.refl _ _ | apply Below.drew | (refine Below.setCell ?_ (by dsimp only; omega) _) | (refine Below.alloc ?_ (by first | omega | (simp; done) | (simp; omega)) _))) (hb7.mono (by first | omega | (simp; done) | (simp; omega))); have hp7s := hp7.size; have hs7 := hb7.size; (try simp at hs7); (try have hs7l : W.heap.size < w7.heap.size := hs7); have hs7k : W.heap.size ≤ w7.heap.size := (by omega); (try have hs7n := Nat.ne_of_lt hs7l); (try have hs7m := Ne.symm hs7n); have z0 := hb7.cell (p := ⟨W.heap.size, 0, none⟩); have zf0 := hb7.frozen (p := ⟨W.heap.size, 0, none⟩); (try simp [go_sem] at z0); (try simp [go_sem] at zf0); have z1 := hb7.cell (p := ⟨W.heap.size, 1, none⟩); have zf1 := hb7.frozen (p := ⟨W.heap.size, 1, none⟩); (try simp [go_sem] at z1); (try simp [go_sem] at zf1))))
    all_goals
      go_wp2_with fail
      go_meet
      go_light
      refine ⟨?_, _, ?_, rfl, ⟨?_, ?_, ?_, ?_⟩⟩
      · repeat' (first | assumption | (refine Below.setCell ?_ (by dsimp only; omega) _) | (refine Below.alloc ?_ (by first | omega | (simp; done) | (simp; omega)) _))
      · omega
      all_goals (simp [go_sem, *]; done)
  case rest =>
    obtain ⟨hbx, g, hg, rfl, hG⟩ := hcut
    have HB2 := Lib.hid (HB.out.below hbx)
    have HC2 := Lib.hid (HC.out.below hbx)
    have HL2 := Lib.hid (HL.out.below hbx)
    have HH2 := Lib.hid (HH.out.below hbx)
    have hbw2 := hbw.trans (hbx.mono hbw.size)
    have hh1 := HH.out.lt
    clear HB HC HL HH hbw b0 b1 b2 b3 b4 b5 b6 b7 c0 c1 c2 c3 c6 hbx
    obtain ⟨W2, hW2⟩ : ∃ X, X = wc := ⟨_, rfl⟩
    rw [← hW2] at hG HB2 HC2 HL2 HH2 hbw2 ⊢
    clear hW2
    have HG := Lib.hid hG
    have hgl := hG.lt
    clear hG
    obtain ⟨b0, b1, b2, b3, b4, b5, b6, b7⟩ := BB.cells (b := b) HB2.out
    obtain ⟨c0, c1, c2, c3, -, -, c6⟩ := CB.cells (x := x) HC2.out
    rw [HW.out] at b0
    go_wp2_with fail
    go_cut [8] from 32 to 45 (fun s8 wx => Below W2.heap.size W2 wx ∧ ∃ g', W2.heap.size ≤ g' ∧ s8 = .pointer (some ⟨g', 0, none⟩) ∧ PC g' ((tabAt b.n b.t x.fin.hi).minus (tabAt b.n b.t x.beg.lo) (-2 * b.off)) wx)
    case first =>
      go_region_held3 (fun w' => w'.cell? ⟨w.heap.size, 0, none⟩ = some (.bool false) ∧ w'.cell? ⟨w.heap.size, 1, none⟩ = some (.slice oa b.n cap) ∧ w'.cell? ⟨w.heap.size, 2, none⟩ = some (.int .i64 b.off) ∧ w'.cell? ⟨w.heap.size, 3, none⟩ = some (.int .i64 b.buoy.lo) ∧ w'.cell? ⟨w.heap.size, 4, none⟩ = some (.int .i64 b.buoy.hi) ∧ w'.cell? ⟨w.heap.size, 5, none⟩ = some (.int .i64 b.air.lo) ∧ w'.cell? ⟨w.heap.size, 6, none⟩ = some (.int .i64 b.air.hi) ∧ w'.cell? ⟨w.heap.size + 1, 0, none⟩ = some (.int .i64 x.beg.lo) ∧ w'.cell? ⟨w.heap.size + 1, 3, none⟩ = some (.int .i64 x.fin.hi)) ((refine ⟨(Below.cell (p := ⟨w.heap.size, 0, none⟩) (w := W2) ?_ b7).trans b0, (Below.cell (p := ⟨w.heap.size, 1, none⟩) (w := W2) ?_ b7).trans b1, (Below.cell (p := ⟨w.heap.size, 2, none⟩) (w := W2) ?_ b7).trans b2, (Below.cell (p := ⟨w.heap.size, 3, none⟩) (w := W2) ?_ b7).trans b3, (Below.cell (p := ⟨w.heap.size, 4, none⟩) (w := W2) ?_ b7).trans b4, (Below.cell (p := ⟨w.heap.size, 5, none⟩) (w := W2) ?_ b7).trans b5, (Below.cell (p := ⟨w.heap.size, 6, none⟩) (w := W2) ?_ b7).trans b6, (Below.cell (p := ⟨w.heap.size + 1, 0, none⟩) (w := W2) ?_ c6).trans c0, (Below.cell (p := ⟨w.heap.size + 1, 3, none⟩) (w := W2) ?_ c6).trans c3⟩ <;> (repeat' (first | assumption | exact Below.refl _ _ | apply Below.drew | (refine Below.setCell ?_ (by dsimp only; omega) _) | (refine Below.alloc ?_ (by first | omega | (simp; done) | (simp; omega)) _))))) (first | ((go_at_call 55; refine (refLess_any (tabAt b.n b.t x.fin.hi) (tabAt b.n b.t x.beg.lo) (-2 * b.off) _ M2.out.1 M2.out.2.1 M2.out.2.2.1 M2.out.2.2.2.1 M2.out.2.2.2.2).mono ?_; rintro e w9 ⟨rfl, hb9⟩; have hp9 : Below W2.heap.size W2 w9 := Below.trans (by repeat' (first | assumption | exact Below.refl _ _ | apply Below.drew | (refine Below.setCell ?_ (by dsimp only; omega) _) | (refine Below.alloc ?_ (by first | omega | (simp; done) | (simp; omega)) _))) (hb9.mono (by first | omega | (simp; done) | (simp; omega))); have hp9s := hp9.size; have hs9 := hb9.size; (try simp at hs9); (try have hs9l : w8.heap.size < w9.heap.size := hs9); have hs9k : w8.heap.size ≤ w9.heap.size := (by omega); (try have hs9n := Nat.ne_of_lt hs9l); (try have hs9m := Ne.symm hs9n); (try have ha9 := Nat.lt_of_lt_of_le ha8 hs9k); (try have hb9' := Nat.lt_of_lt_of_le hs8l hs9k); (try have ha9n := Nat.ne_of_lt ha9); (try have hb9n := Nat.ne_of_lt hb9'); (try have ha9m := Ne.symm ha9n); (try have hb9m := Ne.symm hb9n); have x0 := hb9.cell (p := ⟨W2.heap.size, 0, none⟩); have xf0 := hb9.frozen (p := ⟨W2.heap.size, 0, none⟩); (try simp [go_sem] at x0); (try simp [go_sem] at xf0); have x1 := hb9.cell (p := ⟨W2.heap.size, 1, none⟩); have xf1 := hb9.frozen (p := ⟨W2.heap.size, 1, none⟩); (try simp [go_sem] at x1); (try simp [go_sem] at xf1); have x2 := hb9.cell (p := ⟨w7.heap.size, 0, none⟩); have xf2 := hb9.frozen (p := ⟨w7.heap.size, 0, none⟩); (try simp [go_sem] at x2); (try simp [go_sem] at xf2); have x3 := hb9.cell (p := ⟨w7.heap.size, 1, none⟩); have xf3 := hb9.frozen (p := ⟨w7.heap.size, 1, none⟩); (try simp [go_sem] at x3); (try simp [go_sem] at xf3); have x4 := hb9.cell (p := ⟨w8.heap.size, 0, none⟩); have xf4 := hb9.frozen (p := ⟨w8.heap.size, 0, none⟩); (try simp [go_sem] at x4); (try simp [go_sem] at xf4); have x5 := hb9.cell (p := ⟨w8.heap.size, 1, none⟩); have xf5 := hb9.frozen (p := ⟨w8.heap.size, 1, none⟩); (try simp [go_sem] at x5); (try simp [go_sem] at xf5))) | ((go_at_call 52; have hq7 := hb7.size; refine (refAtF_any false b oa cap _ _ HV.out (HT.out.mono (hbw2.trans (Below.mono (by repeat' (first | assumption | exact Below.refl _ _ | apply Below.drew | (refine Below.setCell ?_ (by dsimp only; omega) _) | (refine Below.alloc ?_ (by first | omega | (simp; done) | (simp; omega)) _))) hbw2.size))) (by assumption) (by assumption)).mono ?_; rintro e w8 ⟨rfl, hb8⟩; have hp8 : Below W2.heap.size W2 w8 := Below.trans (by repeat' (first | assumption | exact Below.refl _ _ | apply Below.drew | (refine Below.setCell ?_ (by dsimp only; omega) _) | (refine Below.alloc ?_ (by first | omega | (simp; done) | (simp; omega)) _))) (hb8.mono (by first | omega | (simp; done) | (simp; omega))); have hp8s := hp8.size; have hs8 := hb8.size; (try simp at hs8); (try have hs8l : w7.heap.size < w8.heap.size := hs8); have hs8k : w7.heap.size ≤ w8.heap.size := (by omega); (try have hs8n := Nat.ne_of_lt hs8l); (try have hs8m := Ne.symm hs8n); (try have ha8 := Nat.lt_of_lt_of_le hs7l hs8k); (try have ha8n := Nat.ne_of_lt ha8); (try have ha8m := Ne.symm ha8n); have y0 := hb8.cell (p := ⟨W2.heap.size, 0, none⟩); have yf0 := hb8.frozen (p := ⟨W2.heap.size, 0, none⟩); (try simp [go_sem] at y0); (try simp [go_sem] at yf0); have y1 := hb8.cell (p := ⟨W2.heap.size, 1, none⟩); have yf1 := hb8.frozen (p := ⟨W2.heap.size, 1, none⟩); (try simp [go_sem] at y1); (try simp [go_sem] at yf1); have y2 := hb8.cell (p := ⟨w7.heap.size, 0, none⟩); have yf2 := hb8.frozen (p := ⟨w7.heap.size, 0, none⟩); (try simp [go_sem] at y2); (try simp [go_sem] at yf2); have y3 := hb8.cell (p := ⟨w7.heap.size, 1, none⟩); have yf3 := hb8.frozen (p := ⟨w7.heap.size, 1, none⟩); (try simp [go_sem] at y3); (try simp [go_sem] at yf3))) | ((go_at_call 52; refine (refAtF_any false b oa cap _ _ HV.out (HT.out.mono (hbw2.trans (Below.mono (by repeat' (first | assumption | exact Below.refl _ _ | apply Below.drew | (refine Below.setCell ?_ (by dsimp only; omega) _) | (refine Below.alloc ?_ (by first | omega | (simp; done) | (simp; omega)) _))) hbw2.size))) (by assumption) (by assumption)).mono ?_; rintro e w7 ⟨rfl, hb7⟩; have hp7 : Below W2.heap.size W2 w7 := Below.trans (by repeat' (first | assumption | exact Below.refl _ _ | apply Below.drew | (refine Below.setCell ?_ (by dsimp only; omega) _) | (refine Below.alloc ?_ (by first | omega | (simp; done) | (simp; omega)) _))) (hb7.mono (by first | omega | (simp; done) | (simp; omega))); have hp7s := hp7.size; have hs7 := hb7.size; (try simp at hs7); (try have hs7l : W2.heap.size < w7.heap.size := hs7); have hs7k : W2.heap.size ≤ w7.heap.size := (by omega); (try have hs7n := Nat.ne_of_lt hs7l); (try have hs7m := Ne.symm hs7n); have z0 := hb7.cell (p := ⟨W2.heap.size, 0, none⟩); have zf0 := hb7.frozen (p := ⟨W2.heap.size, 0, none⟩); (try simp [go_sem] at z0); (try simp [go_sem] at zf0); have z1 := hb7.cell (p := ⟨W2.heap.size, 1, none⟩); have zf1 := hb7.frozen (p := ⟨W2.heap.size, 1, none⟩); (try simp [go_sem] at z1); (try simp [go_sem] at zf1))))
      all_goals
        go_wp2_with fail
        go_meet
        go_light
        refine ⟨?_, _, ?_, rfl, ⟨?_, ?_, ?_, ?_⟩⟩
        · repeat' (first | assumption | (refine Below.setCell ?_ (by dsimp only; omega) _) | (refine Below.alloc ?_ (by first | omega | (simp; done) | (simp; omega)) _))
        · omega
        all_goals (simp [go_sem, *]; done)
    case rest =>
      obtain ⟨hbx, g', hg', rfl, hG'⟩ := hcut
      have HL3 := Lib.hid (HL2.out.below hbx)
      have HH3 := Lib.hid (HH2.out.below hbx)
      have hbw3 := hbw2.trans (hbx.mono hbw2.size)
      have HG3 := Lib.hid (HG.out.below hbx)
      have hh2 := HH2.out.lt
      clear HB2 HC2 HL2 HH2 hbw2 b0 b1 b2 b3 b4 b5 b6 b7 c0 c1 c2 c3 c6 hbx
      obtain ⟨W3, hW3⟩ : ∃ X, X = wc := ⟨_, rfl⟩
      rw [← hW3] at hG' HL3 HH3 HG3 hbw3 ⊢
      clear hW3
      have O1 := tank_ok (at_dense HV.out p4 p10) (at_dense HV.out p7 p3) (n := 2 * b.off) (by omega)
      have O2 := O1.u1
      have O3 := O1.u0
      obtain ⟨f1, hf1⟩ : ∃ f, f = (tabAt b.n b.t x.fin.lo).minus (tabAt b.n b.t x.beg.hi) (2 * b.off) := ⟨_, rfl⟩
      obtain ⟨f2, hf2⟩ : ∃ f, f = (tabAt b.n b.t x.fin.hi).minus (tabAt b.n b.t x.beg.lo) (-2 * b.off) := ⟨_, rfl⟩
      rw [← hf1] at HG3 O1 O2 O3
      rw [← hf2] at hG'
      have F1 := Lib.hid hf1
      have F2 := Lib.hid hf2
      have O4 := O1.t2
      clear hf1 hf2 O1
      have g0 := HG3.out.c0
      have g1 := HG3.out.c1
      have g2 := hG'.c0
      have g3 := hG'.c1
      have lg := HG3.out.lt
      have lh := hG'.lt
      have l0 := HL3.out.cell 0 rfl
      have l1 := HL3.out.cell 1 rfl
      have k0 := HH3.out.cell 0 rfl
      have k1 := HH3.out.cell 1 rfl
      have l2 := HL3.out.frozen 0
      have l3 := HL3.out.frozen 1
      have k2 := HH3.out.frozen 0
      have k3 := HH3.out.frozen 1
      have ls := HL3.out.lt
      have ks := HH3.out.lt
      go_wp2_with fail
      go_region_held3 (fun w' => w'.cell? ⟨g, 0, none⟩ = some (.int .i64 f1.top) ∧ w'.cell? ⟨g, 1, none⟩ = some (.int .i64 f1.under) ∧ w'.cell? ⟨g', 0, none⟩ = some (.int .i64 f2.top) ∧ w'.cell? ⟨g', 1, none⟩ = some (.int .i64 f2.under)) ((refine ⟨Two.cell (p := w.heap.size + 1 + 1) (q := w.heap.size + 1 + 1 + 1) (w := W3) ?_ g0 lg (by omega) (by omega), Two.cell (p := w.heap.size + 1 + 1) (q := w.heap.size + 1 + 1 + 1) (w := W3) ?_ g1 lg (by omega) (by omega), Two.cell (p := w.heap.size + 1 + 1) (q := w.heap.size + 1 + 1 + 1) (w := W3) ?_ g2 lh (by omega) (by omega), Two.cell (p := w.heap.size + 1 + 1) (q := w.heap.size + 1 + 1 + 1) (w := W3) ?_ g3 lh (by omega) (by omega)⟩ <;> (repeat' (first | assumption | exact Two.refl _ _ _ | apply Two.drew | apply Two.setP | apply Two.setQ)))) (first | ((go_at_call 30; refine (lessOne_any _ _ _ (by omega) (by omega)).mono ?_; rintro e w9 ⟨rfl, hb9⟩; have hbp : Below W3.heap.size W3 w9 := Below.trans (by repeat' (first | assumption | exact Below.refl _ _ | apply Below.drew)) (hb9.mono (by first | omega | (simp; done) | (simp; omega))); have hsp := hbp.size; have htp : Two (w.heap.size + 1 + 1) (w.heap.size + 1 + 1 + 1) W3 w9 := Two.below (Two.refl _ _ _) hbp; have y00 := (hbp.cell (p := ⟨w.heap.size + 1 + 1, 0, none⟩) ls).trans l0; have y01 := (hbp.cell (p := ⟨w.heap.size + 1 + 1, 1, none⟩) ls).trans l1; have z00 := (hbp.frozen (p := ⟨w.heap.size + 1 + 1, 0, none⟩) ls).trans l2; have z01 := (hbp.frozen (p := ⟨w.heap.size + 1 + 1, 1, none⟩) ls).trans l3; have y10 := (hbp.cell (p := ⟨w.heap.size + 1 + 1 + 1, 0, none⟩) ks).trans k0; have y11 := (hbp.cell (p := ⟨w.heap.size + 1 + 1 + 1, 1, none⟩) ks).trans k1; have z10 := (hbp.frozen (p := ⟨w.heap.size + 1 + 1 + 1, 0, none⟩) ks).trans k2; have z11 := (hbp.frozen (p := ⟨w.heap.size + 1 + 1 + 1, 1, none⟩) ks).trans k3)))
      all_goals
        go_wp2_with fail
        have pq := put4 (HL3.out.below hbp) (HH3.out.below hbp) (by omega) (.int .i64 f1.top) (.int .i64 f1.under) (.int .i64 f2.top) (.int .i64 f2.under)
        have e9 : b.tankW x = (f1, f2, true) := by rw [F1.out, F2.out]; rfl
        have e8 : decide (f1.under ≤ f1.top) = !decide (f1.top < f1.under) := by rw [Bool.eq_iff_iff]; simp
        refine bodyPost_ret (v := .tuple #[.agg #[.int .i64 f1.top, .int .i64 f1.under], .agg #[.int .i64 f2.top, .int .i64 f2.under], .bool (!decide (f1.top < f1.under))]) (by simp [results, Try.results36, go_sem, pq.1, pq.2.1, pq.2.2.1, pq.2.2.2]) rfl ⟨by rw [e9, ← e8], ((((hbw3.trans (hbp.mono hbw3.size)).setCell (by dsimp only; omega) _).setCell (by dsimp only; omega) _).setCell (by dsimp only; omega) _).setCell (by dsimp only; omega) _⟩
end Go.Proofs.Ythoefcpeagclbaa
