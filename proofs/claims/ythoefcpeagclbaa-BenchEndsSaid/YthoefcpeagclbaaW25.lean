/- The least and the greatest error of a meter, as fractions, and rounded. The error of a meter, a span. -/
import Derived.Test.YthoefcpeagclbaaW24
import Derived.Test.YthoefcpeagclbaaP3
namespace Go.Proofs.Ythoefcpeagclbaa
open Go.RowKit


/-- four boxes of two cells in a row -/
abbrev four2 (x y p q : Spn) (t0 t1 t2 t3 : TypeId) (w : World) : World := (((w.alloc (.cells #[.int .i64 x.lo, .int .i64 x.hi] t0)).alloc (.cells #[.int .i64 y.lo, .int .i64 y.hi] t1)).alloc (.cells #[.int .i64 p.lo, .int .i64 p.hi] t2)).alloc (.cells #[.int .i64 q.lo, .int .i64 q.hi] t3)
abbrev SB (s : Spn) (t : TypeId) (g : Nat) (w : World) : Prop := Box g #[.int .i64 s.lo, .int .i64 s.hi] t w
theorem four2_boxes {x y p q : Spn} {t0 t1 t2 t3 : TypeId} {w W : World} (h : W = four2 x y p q t0 t1 t2 t3 w) :
    SB x t0 w.heap.size W ∧ SB y t1 (w.heap.size + 1) W ∧ SB p t2 (w.heap.size + 1 + 1) W ∧ SB q t3 (w.heap.size + 1 + 1 + 1) W ∧ Below w.heap.size w W ∧ W.heap.size = w.heap.size + 1 + 1 + 1 + 1 := by
  subst h
  exact ⟨(((Box.new _ t0 w rfl).old _).old _).old _, (((Box.new _ t1 _ (by simp)).old _).old _), ((Box.new _ t2 _ (by simp)).old _), Box.new _ t3 _ (by simp), ((((Below.refl _ _).alloc (by simp) _).alloc (by simp) _).alloc (by simp; omega) _).alloc (by simp; omega) _, by simp⟩
set_option maxRecDepth 100000 in
set_option maxHeartbeats 4000000 in
theorem ends_any' (v s : Spn) (w : World) (h0 : -100000000000000 ≤ v.lo ∧ v.lo ≤ 100000000000000) (h1 : -100000000000000 ≤ v.hi ∧ v.hi ≤ 100000000000000) (h2 : -100000000000000 ≤ s.lo ∧ s.lo ≤ 100000000000000) (h3 : -100000000000000 ≤ s.hi ∧ s.hi ≤ 100000000000000) :
    Calls Try.prog 46 #[v.val, s.val] w fun e w' => e = .returned (.tuple #[(endL v s).val, (endH v s).val]) ∧ Below w.heap.size w w' := by
  have w1 : IntKind.i64.wrap (s.lo - v.hi) = s.lo - v.hi := IntWalk.i64_in _ (by omega)
  have w2 : IntKind.i64.wrap (s.hi - v.lo) = s.hi - v.lo := IntWalk.i64_in _ (by omega)
  have w3 : IntKind.i64.wrap (10000 * (s.lo - v.hi)) = 10000 * (s.lo - v.hi) := IntWalk.i64_in _ (by omega)
  have w4 : IntKind.i64.wrap (10000 * (s.hi - v.lo)) = 10000 * (s.hi - v.lo) := IntWalk.i64_in _ (by omega)
  clear h0 h1 h2 h3
  go_enter Try.func46, Try.ntmps46
  go_wp2_with fail
  obtain ⟨W, hW⟩ : ∃ X, X = four2 v s ⟨0, 0⟩ ⟨0, 0⟩ 83 24 74 74 w := ⟨_, rfl⟩
  obtain ⟨B0, B1, B2, B3, hb, hsz⟩ := four2_boxes hW
  dsimp only [four2] at hW
  rw [← hW]
  clear hW
  have a0 := B0.cell 0 rfl
  have a1 := B0.cell 1 rfl
  have b0 := B1.cell 0 rfl
  have b1 := B1.cell 1 rfl
  have c0 := B2.cell 0 rfl
  have c1 := B2.cell 1 rfl
  have d0 := B3.cell 0 rfl
  have d1 := B3.cell 1 rfl
  have e0 := B2.frozen 0
  have e1 := B2.frozen 1
  have f0 := B3.frozen 0
  have f1 := B3.frozen 1
  have HB2 := Lib.hid B2
  have HB3 := Lib.hid B3
  clear B0 B1 B2 B3
  have pq := put4 HB2.out HB3.out (by omega) (.int .i64 (endL v s).top) (.int .i64 (endL v s).under) (.int .i64 (endH v s).top) (.int .i64 (endH v s).under)
  have hbz := (((hb.setCell (p := ⟨w.heap.size + 1 + 1, 0, none⟩) (by simp; omega) (.int .i64 (endL v s).top)).setCell (p := ⟨w.heap.size + 1 + 1, 1, none⟩) (by simp; omega) (.int .i64 (endL v s).under)).setCell (p := ⟨w.heap.size + 1 + 1 + 1, 0, none⟩) (by simp; omega) (.int .i64 (endH v s).top)).setCell (p := ⟨w.heap.size + 1 + 1 + 1, 1, none⟩) (by simp; omega) (.int .i64 (endH v s).under)
  have HP := Lib.hid pq
  have HZ := Lib.hid hbz.drew
  clear pq hbz
  go_region
  all_goals
    go_wp2_with fail
    have pq := HP.out
    dsimp only [endL, endH] at pq
    refine bodyPost_ret (v := .tuple #[.agg #[.int .i64 (10000 * (s.lo - v.hi)), .int .i64 v.hi], .agg #[.int .i64 (10000 * (s.hi - v.lo)), .int .i64 v.lo]]) (by simp [results, Try.results46, go_sem, pq.1, pq.2.1, pq.2.2.1, pq.2.2.2]) rfl ⟨rfl, HZ.out⟩
end Go.Proofs.Ythoefcpeagclbaa
namespace Go.Proofs.Ythoefcpeagclbaa
open Go.RowKit
/-- three boxes of two cells in a row -/
abbrev three2 (x y p : Spn) (t0 t1 t2 : TypeId) (w : World) : World := ((w.alloc (.cells #[.int .i64 x.lo, .int .i64 x.hi] t0)).alloc (.cells #[.int .i64 y.lo, .int .i64 y.hi] t1)).alloc (.cells #[.int .i64 p.lo, .int .i64 p.hi] t2)
theorem three2_boxes {x y p : Spn} {t0 t1 t2 : TypeId} {w W : World} (h : W = three2 x y p t0 t1 t2 w) :
    SB x t0 w.heap.size W ∧ SB y t1 (w.heap.size + 1) W ∧ SB p t2 (w.heap.size + 1 + 1) W ∧ Below w.heap.size w W ∧ W.heap.size = w.heap.size + 1 + 1 + 1 := by
  subst h
  exact ⟨((Box.new _ t0 w rfl).old _).old _, (Box.new _ t1 _ (by simp)).old _, Box.new _ t2 _ (by simp), (((Below.refl _ _).alloc (by simp) _).alloc (by simp) _).alloc (by simp; omega) _, by simp⟩
abbrev two2 (x y : Frac) (t0 t1 : TypeId) (w : World) : World := (w.alloc (.cells #[.int .i64 x.top, .int .i64 x.under] t0)).alloc (.cells #[.int .i64 y.top, .int .i64 y.under] t1)
theorem news_blk1 {W : World} {g e : Nat} {x u : Value} {j : Nat} (h : W.heap[g]? = some (.cells #[x] e (0, 0))) (hu : [x][j]? = some u) : W.cell? ((⟨g, 0, none⟩ : Addr).add j) = some u := by
  rw [add_flat, Nat.zero_add, cell_of_row W g j _ e (0, 0) h]
  simpa using hu
abbrev FB (s : Frac) (t : TypeId) (g : Nat) (w : World) : Prop := Box g #[.int .i64 s.top, .int .i64 s.under] t w
theorem two2_boxes {x y : Frac} {t0 t1 : TypeId} {w W : World} (h : W = two2 x y t0 t1 w) :
    FB x t0 w.heap.size W ∧ FB y t1 (w.heap.size + 1) W ∧ Below w.heap.size w W ∧ W.heap.size = w.heap.size + 1 + 1 := by
  subst h
  exact ⟨(Box.new _ t0 w rfl).old _, Box.new _ t1 _ (by simp), ((Below.refl _ _).alloc (by simp) _).alloc (by simp) _, by simp⟩
set_option maxRecDepth 100000 in
set_option maxHeartbeats 4000000 in
theorem meterErr_any (v s : Spn) (w : World) (h0 : 1 ≤ v.lo) (h1 : v.lo ≤ v.hi) (hv : v.hi ≤ 100000000000000) (h2 : -100000000000000 ≤ s.lo ∧ s.lo ≤ 100000000000000) (h3 : -100000000000000 ≤ s.hi ∧ s.hi ≤ 100000000000000) :
    Calls Try.prog 41 #[v.val, s.val] w fun e w' => e = .returned (errR v s).val ∧ Below w.heap.size w w' := by
  go_enter Try.func41, Try.ntmps41
  go_wp2_with fail
  obtain ⟨W, hW⟩ : ∃ X, X = three2 v s ⟨0, 0⟩ 83 24 24 w := ⟨_, rfl⟩
  obtain ⟨B0, B1, B2, hb, hsz⟩ := three2_boxes hW
  dsimp only [three2] at hW
  rw [← hW]
  clear hW
  have HB2 := Lib.hid B2
  clear B0 B1 B2
  refine (ends_any' v s _ (by omega) (by omega) h2 h3).mono ?_
  rintro e w1 ⟨rfl, hb1⟩
  have HR := Lib.hid (HB2.out.below hb1)
  have hbw := hb.trans (hb1.mono hb.size)
  clear hb hb1 HB2 hsz
  have hL : (0 : Int) < (endL v s).under ∧ -4000000000000000000 ≤ (endL v s).top ∧ (endL v s).top ≤ 4000000000000000000 := by simp only [endL]; omega
  have hH : (0 : Int) < (endH v s).under ∧ -4000000000000000000 ≤ (endH v s).top ∧ (endH v s).top ≤ 4000000000000000000 := by simp only [endH]; omega
  have HE := Lib.hid (show errR v s = ⟨rnd 0 (endL v s).top (endL v s).under, rnd 1 (endH v s).top (endH v s).under⟩ from rfl)
  generalize endL v s = L at *
  generalize endH v s = H at *
  go_upto_region 2 with fail
  obtain ⟨W2, hW⟩ : ∃ X, X = two2 L H 74 74 w1 := ⟨_, rfl⟩
  obtain ⟨B0, B1, hb, hsz⟩ := two2_boxes hW
  dsimp only [two2] at hW
  rw [← hW]
  clear hW
  have rl0 := HR.out.lt
  have HR2 := HR.out.below hb
  have hbw3 := hbw.trans (hb.mono hbw.size)
  obtain ⟨g, hg⟩ : ∃ N, N = w1.heap.size := ⟨_, rfl⟩
  rw [← hg] at B0 B1 rl0 hsz ⊢
  clear hg hb HR hbw
  have g0 := B0.cell 0 rfl
  have g1 := B0.cell 1 rfl
  have gl := B0.lt
  have q0 := B1.cell 0 rfl
  have q1 := B1.cell 1 rfl
  have ql := B1.lt
  have r0 := HR2.cell 0 rfl
  have r1 := HR2.cell 1 rfl
  have r2 := HR2.frozen 0
  have r3 := HR2.frozen 1
  have rl := HR2.lt
  clear B0 B1 HR2 h0 h1 h2 h3 hv
  go_region_held3 (fun w' => w'.cell? ⟨g, 0, none⟩ = some (.int .i64 L.top) ∧ w'.cell? ⟨g, 1, none⟩ = some (.int .i64 L.under) ∧ w'.cell? ⟨g + 1, 0, none⟩ = some (.int .i64 H.top) ∧ w'.cell? ⟨g + 1, 1, none⟩ = some (.int .i64 H.under)) ((refine ⟨Two.cell (p := w.heap.size + 1 + 1) (q := w.heap.size + 1 + 1) (w := W2) ?_ g0 gl (by omega) (by omega), Two.cell (p := w.heap.size + 1 + 1) (q := w.heap.size + 1 + 1) (w := W2) ?_ g1 gl (by omega) (by omega), Two.cell (p := w.heap.size + 1 + 1) (q := w.heap.size + 1 + 1) (w := W2) ?_ q0 ql (by omega) (by omega), Two.cell (p := w.heap.size + 1 + 1) (q := w.heap.size + 1 + 1) (w := W2) ?_ q1 ql (by omega) (by omega)⟩ <;> (repeat' (first | assumption | exact Two.refl _ _ _ | apply Two.drew | apply Two.setP)))) (first | ((go_at_call 35; refine (round_tu _ _ _ _ (by simp) (by omega) (by omega)).mono ?_; rintro e w9 ⟨rfl, hb9'⟩; have hbp : Below W2.heap.size W2 w9 := Below.trans (by repeat' (first | assumption | exact Below.refl _ _ | apply Below.drew)) (hb9'.mono (by first | omega | (simp; done) | (simp; omega))); have hsp := hbp.size; have htp : Two (w.heap.size + 1 + 1) (w.heap.size + 1 + 1) W2 w9 := Two.below (Two.refl _ _ _) hbp; have y0 := (hbp.cell (p := ⟨w.heap.size + 1 + 1, 0, none⟩) rl).trans r0; have y1 := (hbp.cell (p := ⟨w.heap.size + 1 + 1, 1, none⟩) rl).trans r1; have z0 := (hbp.frozen (p := ⟨w.heap.size + 1 + 1, 0, none⟩) rl).trans r2; have z1 := (hbp.frozen (p := ⟨w.heap.size + 1 + 1, 1, none⟩) rl).trans r3)))
  all_goals
    go_wp2_with fail
    have pq := put2 y0 y1 (.int .i64 (rnd 0 L.top L.under)) (.int .i64 (rnd 1 H.top H.under))
    refine bodyPost_ret (v := .agg #[.int .i64 (rnd 0 L.top L.under), .int .i64 (rnd 1 H.top H.under)]) (by simp [results, Try.results41, go_sem, pq.1, pq.2]) rfl ⟨by rw [HE.out], ((hbw3.trans (hbp.mono hbw3.size)).setCell (by dsimp only; omega) _).setCell (by dsimp only; omega) _⟩
end Go.Proofs.Ythoefcpeagclbaa
