/- The tank's water: the least and the greatest one. -/
import Derived.Test.YthoefcpeagclbaaW12
namespace Go.Proofs.Ythoefcpeagclbaa
open Go.RowKit Go.Shelf
def Bnch.tankW (b : Bnch) (x : Ctch) : Frac × Frac × Bool :=
  ((tabAt b.n b.t x.fin.lo).minus (tabAt b.n b.t x.beg.hi) (2 * b.off), (tabAt b.n b.t x.fin.hi).minus (tabAt b.n b.t x.beg.lo) (-2 * b.off), true)
theorem minus_bd {a b : Frac} (ha : Dense a) (hb : Dense b) {n : Int} (hn : -20000000 ≤ n ∧ n ≤ 20000000) :
    (-1000000000000000000 ≤ a.top * b.under ∧ a.top * b.under ≤ 1000000000000000000) ∧ (-1000000000000000000 ≤ b.top * a.under ∧ b.top * a.under ≤ 1000000000000000000) ∧
    (-1000000000000000000 ≤ n * a.under ∧ n * a.under ≤ 1000000000000000000) ∧ (-1000000000000000000 ≤ n * a.under * b.under ∧ n * a.under * b.under ≤ 1000000000000000000) ∧ (-1000000000000000000 ≤ a.under * b.under ∧ a.under * b.under ≤ 1000000000000000000) := by
  have a1 := ha.u0
  have a2 := ha.u1
  have a3 := ha.t0
  have a4 := ha.t1
  have b1 := hb.u0
  have b2 := hb.u1
  have b3 := hb.t0
  have b4 := hb.t1
  have m1 := mulb (a := a.top) (b := b.under) (x := 100000000000) (y := 10000) (by omega) (by omega) (by omega) (by omega)
  have m2 := mulb (a := b.top) (b := a.under) (x := 100000000000) (y := 10000) (by omega) (by omega) (by omega) (by omega)
  have m3 := mulsb (a := n) (b := a.under) (x := 20000000) (y := 10000) (by omega) (by omega) (by omega) (by omega)
  have m4 := mulsb (a := n * a.under) (b := b.under) (x := 20000000 * 10000) (y := 10000) (by omega) (by omega) (by omega) (by omega)
  have m5 := mulb (a := a.under) (b := b.under) (x := 10000) (y := 10000) (by omega) (by omega) (by omega) (by omega)
  omega
set_option maxRecDepth 100000 in
set_option maxHeartbeats 4000000 in
theorem tankWater_any (b : Bnch) (x : Ctch) (oa : Option Addr) (cap : Nat) (w : World) (hv : b.valid = true) (hx : b.tankOk x = true) (hcap : b.n ≤ cap) (hT : MarksAt w oa b.n b.t) :
    Calls Try.prog 88 #[b.val oa cap, x.val] w fun e w' => e = .returned (.tuple #[(b.tankW x).1.val, (b.tankW x).2.1.val, .bool (b.tankW x).2.2]) ∧ Below w.heap.size w w' := by
  have hV := valid_tab hv
  obtain ⟨-, hn1, hn2, ho, hbu, hai⟩ := valid_all hv
  have hx : ((b.t 0).at_ ≤ x.beg.lo ∧ x.beg.lo ≤ x.beg.hi ∧ x.beg.hi ≤ (b.t (b.n - 1)).at_) ∧ ((b.t 0).at_ ≤ x.fin.lo ∧ x.fin.lo ≤ x.fin.hi ∧ x.fin.hi ≤ (b.t (b.n - 1)).at_) := by
    simp only [Bnch.tankOk, spanB, Bool.and_eq_true, decide_eq_true_eq] at hx
    exact hx
  obtain ⟨⟨p1, p2, p3⟩, p4, p5, p6⟩ := hx
  have p7 := Int.le_trans p1 p2
  have p8 := Int.le_trans p4 p5
  have p9 := Int.le_trans p2 p3
  have p10 := Int.le_trans p5 p6
  have M := Lib.hid (minus_bd (at_dense hV p4 p10) (at_dense hV p7 p3) (n := 2 * b.off) (by omega))
  have M2 := Lib.hid (minus_bd (at_dense hV p8 p6) (at_dense hV p1 p9) (n := -2 * b.off) (by omega))
  have HT := Lib.hid hT
  have HV := Lib.hid hV
  clear hT hV hv
  go_enter Try.func88, Try.ntmps88
  go_wp2_with fail
  have HB := Lib.hid (four_bench 100 74 b oa cap x w)
  have HC := Lib.hid (four_catch 100 74 b oa cap x w)
  have HL := Lib.hid (four_low 100 74 b oa cap x w)
  have HH := Lib.hid (four_high 100 74 b oa cap x w)
  have hbw := four_below 100 74 b oa cap x w
  obtain ⟨W, hW⟩ : ∃ X, X = four 100 74 b oa cap x w := ⟨_, rfl⟩
  rw [← hW] at HB HC HL HH hbw
  unfold four two at hW
  rw [← hW]
  clear hW
  obtain ⟨-, b1, b2, -, -, -, -, b7⟩ := BB.cells (b := b) HB.out
  obtain ⟨c0, c1, c2, c3, -, -, c6⟩ := CB.cells (x := x) HC.out
  have l0 := HL.out.cell 0 rfl
  have l1 := HL.out.cell 1 rfl
  have l2 := HL.out.frozen 0
  have l3 := HL.out.frozen 1
  have ll := HL.out.lt
  have hw1 : IntKind.i64.wrap (2 * b.off) = 2 * b.off := IntWalk.i64_in _ (by omega)
  have hw2 : IntKind.i64.wrap (-2 * b.off) = -2 * b.off := IntWalk.i64_in _ (by omega)
  go_cut [6] from 7 to 25 (fun s6 wx => s6 = .bool false ∧ Below w.heap.size w wx ∧ BB 100 b oa cap w.heap.size wx ∧ CB x (w.heap.size + 1) wx ∧ Box (w.heap.size + 1 + 1) #[.int .i64 (b.tankW x).1.top, .int .i64 (b.tankW x).1.under] 74 wx ∧ Box (w.heap.size + 1 + 1 + 1) #[.int .i64 0, .int .i64 0] 74 wx)
  case first =>
    go_region_held3 (fun w' => w'.cell? ⟨w.heap.size, 1, none⟩ = some (.slice oa b.n cap) ∧ w'.cell? ⟨w.heap.size, 2, none⟩ = some (.int .i64 b.off) ∧ w'.cell? ⟨w.heap.size + 1, 1, none⟩ = some (.int .i64 x.beg.hi) ∧ w'.cell? ⟨w.heap.size + 1, 2, none⟩ = some (.int .i64 x.fin.lo)) ((refine ⟨Two.cell (p := w.heap.size + 1 + 1) (q := w.heap.size + 1 + 1) (w := W) ?_ b1 b7 (by omega) (by omega), Two.cell (p := w.heap.size + 1 + 1) (q := w.heap.size + 1 + 1) (w := W) ?_ b2 b7 (by omega) (by omega), Two.cell (p := w.heap.size + 1 + 1) (q := w.heap.size + 1 + 1) (w := W) ?_ c1 c6 (by omega) (by omega), Two.cell (p := w.heap.size + 1 + 1) (q := w.heap.size + 1 + 1) (w := W) ?_ c2 c6 (by omega) (by omega)⟩ <;> (repeat' (first | assumption | exact Two.refl _ _ _ | apply Two.drew | apply Two.setP)))) (first | ((go_at_call 89; refine (minus_any _ _ _ _ (by exact M.out.1) (by exact M.out.2.1) (by exact M.out.2.2.1) (by exact M.out.2.2.2.1) (by exact M.out.2.2.2.2)).mono ?_; rintro e w9 ⟨rfl, hb9⟩; have hbp : Below W.heap.size W w9 := Below.trans (by repeat' (first | assumption | exact Below.refl _ _ | apply Below.drew)) (hb9.mono (by first | omega | (simp; done) | (simp; omega))); have hsp := hbp.size; have htp : Two (w.heap.size + 1 + 1) (w.heap.size + 1 + 1) W w9 := Two.below (Two.refl _ _ _) hbp; have y0 := (hbp.cell (p := ⟨w.heap.size + 1 + 1, 0, none⟩) ll).trans l0; have y1 := (hbp.cell (p := ⟨w.heap.size + 1 + 1, 1, none⟩) ll).trans l1; have z0 := (hbp.frozen (p := ⟨w.heap.size + 1 + 1, 0, none⟩) ll).trans l2; have z1 := (hbp.frozen (p := ⟨w.heap.size + 1 + 1, 1, none⟩) ll).trans l3)) | ((go_at_call 84; refine (at_any oa b.n cap b.t _ _ HV.out (HT.out.mono (hbw.trans (Below.mono (by repeat' (first | assumption | exact Below.refl _ _ | apply Below.drew)) hbw.size))) hcap (by assumption) (by assumption)).mono ?_; rintro e w9 ⟨rfl, hb9⟩; have hbp : Below W.heap.size W w9 := Below.trans (by repeat' (first | assumption | exact Below.refl _ _ | apply Below.drew)) (hb9.mono (by first | omega | (simp; done) | (simp; omega))); have hsp := hbp.size; have htp : Two (w.heap.size + 1 + 1) (w.heap.size + 1 + 1) W w9 := Two.below (Two.refl _ _ _) hbp)))
    all_goals
      go_wp2_with fail
      go_meet
      exact ⟨rfl, ((hbw.trans (hbp.mono hbw.size)).setCell (by dsimp only; omega) _).setCell (by dsimp only; omega) _, ((HB.out.below hbp).other (by omega) 0 _).other (by omega) 1 _, ((HC.out.below hbp).other (by omega) 0 _).other (by omega) 1 _, (HL.out.below hbp).set2 _ _, ((HH.out.below hbp).other (by omega) 0 _).other (by omega) 1 _⟩
  case rest =>
    obtain ⟨rfl, hbw2, hB2, hC2, hL2, hH2⟩ := hcut
    have HL2 := Lib.hid hL2
    have HH2 := Lib.hid hH2
    obtain ⟨-, b1, b2, -, -, -, -, b7⟩ := BB.cells (b := b) hB2
    obtain ⟨c0, c1, c2, c3, -, -, c6⟩ := CB.cells (x := x) hC2
    have k0 := HH2.out.cell 0 rfl
    have k1 := HH2.out.cell 1 rfl
    have k2 := HH2.out.frozen 0
    have k3 := HH2.out.frozen 1
    have lk := HH2.out.lt
    clear hL2 hH2 hB2 hC2 HB HC HL HH hbw
    obtain ⟨W2, hW2⟩ : ∃ X, X = wc := ⟨_, rfl⟩
    rw [← hW2] at HL2 HH2 hbw2 b1 b2 b7 c0 c1 c2 c3 c6 k0 k1 k2 k3 lk ⊢
    clear hW2
    go_wp2_with fail
    go_cut [6] from 26 to 44 (fun s6 wx => s6 = .bool false ∧ Below w.heap.size w wx ∧ Box (w.heap.size + 1 + 1) #[.int .i64 (b.tankW x).1.top, .int .i64 (b.tankW x).1.under] 74 wx ∧ Box (w.heap.size + 1 + 1 + 1) #[.int .i64 (b.tankW x).2.1.top, .int .i64 (b.tankW x).2.1.under] 74 wx)
    case first =>
      go_region_held3 (fun w' => w'.cell? ⟨w.heap.size, 1, none⟩ = some (.slice oa b.n cap) ∧ w'.cell? ⟨w.heap.size, 2, none⟩ = some (.int .i64 b.off) ∧ w'.cell? ⟨w.heap.size + 1, 0, none⟩ = some (.int .i64 x.beg.lo) ∧ w'.cell? ⟨w.heap.size + 1, 3, none⟩ = some (.int .i64 x.fin.hi)) ((refine ⟨Two.cell (p := w.heap.size + 1 + 1 + 1) (q := w.heap.size + 1 + 1 + 1) (w := W2) ?_ b1 b7 (by omega) (by omega), Two.cell (p := w.heap.size + 1 + 1 + 1) (q := w.heap.size + 1 + 1 + 1) (w := W2) ?_ b2 b7 (by omega) (by omega), Two.cell (p := w.heap.size + 1 + 1 + 1) (q := w.heap.size + 1 + 1 + 1) (w := W2) ?_ c0 c6 (by omega) (by omega), Two.cell (p := w.heap.size + 1 + 1 + 1) (q := w.heap.size + 1 + 1 + 1) (w := W2) ?_ c3 c6 (by omega) (by omega)⟩ <;> (repeat' (first | assumption | exact Two.refl _ _ _ | apply Two.drew | apply Two.setP)))) (first | ((go_at_call 89; refine (minus_any _ _ _ _ (by exact M2.out.1) (by exact M2.out.2.1) (by exact M2.out.2.2.1) (by exact M2.out.2.2.2.1) (by exact M2.out.2.2.2.2)).mono ?_; rintro e w9 ⟨rfl, hb9⟩; have hbp : Below W2.heap.size W2 w9 := Below.trans (by repeat' (first | assumption | exact Below.refl _ _ | apply Below.drew)) (hb9.mono (by first | omega | (simp; done) | (simp; omega))); have hsp := hbp.size; have htp : Two (w.heap.size + 1 + 1 + 1) (w.heap.size + 1 + 1 + 1) W2 w9 := Two.below (Two.refl _ _ _) hbp; have y0 := (hbp.cell (p := ⟨w.heap.size + 1 + 1 + 1, 0, none⟩) lk).trans k0; have y1 := (hbp.cell (p := ⟨w.heap.size + 1 + 1 + 1, 1, none⟩) lk).trans k1; have z0 := (hbp.frozen (p := ⟨w.heap.size + 1 + 1 + 1, 0, none⟩) lk).trans k2; have z1 := (hbp.frozen (p := ⟨w.heap.size + 1 + 1 + 1, 1, none⟩) lk).trans k3)) | ((go_at_call 84; refine (at_any oa b.n cap b.t _ _ HV.out (HT.out.mono (hbw2.trans (Below.mono (by repeat' (first | assumption | exact Below.refl _ _ | apply Below.drew)) hbw2.size))) hcap (by assumption) (by assumption)).mono ?_; rintro e w9 ⟨rfl, hb9⟩; have hbp : Below W2.heap.size W2 w9 := Below.trans (by repeat' (first | assumption | exact Below.refl _ _ | apply Below.drew)) (hb9.mono (by first | omega | (simp; done) | (simp; omega))); have hsp := hbp.size; have htp : Two (w.heap.size + 1 + 1 + 1) (w.heap.size + 1 + 1 + 1) W2 w9 := Two.below (Two.refl _ _ _) hbp)))
      all_goals
        go_wp2_with fail
        go_meet
        exact ⟨rfl, ((hbw2.trans (hbp.mono hbw2.size)).setCell (by dsimp only; omega) _).setCell (by dsimp only; omega) _, ((HL2.out.below hbp).other (by omega) 0 _).other (by omega) 1 _, (HH2.out.below hbp).set2 _ _⟩
    case rest =>
      obtain ⟨rfl, hbw3, hL3, hH3⟩ := hcut
      have HL3 := Lib.hid hL3
      have HH3 := Lib.hid hH3
      clear HL2 HH2 hbw2 b1 b2 b7 c0 c1 c2 c3 c6 k0 k1 k2 k3 lk hL3 hH3
      have l0 := HL3.out.cell 0 rfl
      have l1 := HL3.out.cell 1 rfl
      have l2 := HL3.out.frozen 0
      have l3 := HL3.out.frozen 1
      have k0 := HH3.out.cell 0 rfl
      have k1 := HH3.out.cell 1 rfl
      have k2 := HH3.out.frozen 0
      have k3 := HH3.out.frozen 1
      obtain ⟨W3, hW3⟩ : ∃ X, X = wc := ⟨_, rfl⟩
      rw [← hW3] at HL3 HH3 hbw3 l0 l1 l2 l3 k0 k1 k2 k3 ⊢
      clear hW3
      have e9 : b.tankW x = ((b.tankW x).1, (b.tankW x).2.1, true) := rfl
      have E9 := Lib.hid e9
      clear e9
      obtain ⟨f1, hf1⟩ : ∃ f, f = (b.tankW x).1 := ⟨_, rfl⟩
      obtain ⟨f2, hf2⟩ : ∃ f, f = (b.tankW x).2.1 := ⟨_, rfl⟩
      have F1 := Lib.hid hf1
      have F2 := Lib.hid hf2
      rw [← hf1] at HL3 l0 l1
      rw [← hf2] at HH3 k0 k1
      clear hf1 hf2
      go_wp2_with fail
      go_region
      all_goals
        go_wp2_with fail
        first
          | (have pq := put4 HL3.out HH3.out (by omega) (.int .i64 f1.top) (.int .i64 f1.under) (.int .i64 f2.top) (.int .i64 f2.under)
             refine bodyPost_ret (v := .tuple #[.agg #[.int .i64 f1.top, .int .i64 f1.under], .agg #[.int .i64 f2.top, .int .i64 f2.under], .bool true]) (by simp [results, Try.results88, go_sem, pq.1, pq.2.1, pq.2.2.1, pq.2.2.2]) rfl ⟨by rw [E9.out, F1.out, F2.out], (by repeat' (first | exact Below.refl _ _ | assumption | apply below_drewN | apply Below.drew | (refine Below.alloc ?_ ?_ _) | (refine Below.setCell ?_ ?_ _) | (simp; done) | (simp; omega) | omega))⟩)
          | (have pq := put4 HH3.out HL3.out (by omega) (.int .i64 f2.top) (.int .i64 f2.under) (.int .i64 f1.top) (.int .i64 f1.under)
             refine bodyPost_ret (v := .tuple #[.agg #[.int .i64 f1.top, .int .i64 f1.under], .agg #[.int .i64 f2.top, .int .i64 f2.under], .bool true]) (by simp [results, Try.results88, go_sem, pq.1, pq.2.1, pq.2.2.1, pq.2.2.2]) rfl ⟨by rw [E9.out, F1.out, F2.out], (by repeat' (first | exact Below.refl _ _ | assumption | apply below_drewN | apply Below.drew | (refine Below.alloc ?_ ?_ _) | (refine Below.setCell ?_ ?_ _) | (simp; done) | (simp; omega) | omega))⟩)
end Go.Proofs.Ythoefcpeagclbaa
