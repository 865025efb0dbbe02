/- A catch is right for a valid bench, as the program and the document say. The document's Catch and At say what the program's right and at say. The closures of the scale's water, and best, over fractions whose numbers are not too great. -/
import Derived.Test.YtlofopnjjeeehaaDoorBnB
namespace Go.Proofs.YtlofopnjjeeehaaDoor.Bn
open Go.RowKit
theorem valid_all {b : Bnch} (h : b.valid = true) : (∀ i, i < b.n → markOk b.weighs b.t i = true) ∧ 2 ≤ b.n ∧ b.n ≤ 12 ∧ (0 ≤ b.off ∧ b.off ≤ 10000000) ∧ (0 ≤ b.buoy.lo ∧ b.buoy.lo ≤ b.buoy.hi ∧ b.buoy.hi ≤ 10000) ∧ (0 ≤ b.air.lo ∧ b.air.lo ≤ b.air.hi ∧ b.air.hi ≤ 10000000) := by
  simp only [Bnch.valid, Bool.and_eq_true, withinB, spanB, decide_eq_true_eq] at h
  exact ⟨allB_iff.1 h.1, by omega, by omega, by omega, by omega, by omega⟩
theorem valid_tab {b : Bnch} (h : b.valid = true) : Tab b.n b.t := by
  obtain ⟨h0, h1, h2, -⟩ := valid_all h
  have hk : ∀ i, i < b.n → (0 ≤ (b.t i).at_ ∧ (b.t i).at_ ≤ 10000) ∧ (1 ≤ (b.t i).value ∧ (b.t i).value ≤ 10000000) ∧ (i = 0 ∨ (b.t (i - 1)).at_ < (b.t i).at_) := fun i hi => by
    have := h0 i hi
    simp only [markOk, Bool.and_eq_true, Bool.or_eq_true, withinB, decide_eq_true_eq] at this
    exact ⟨this.1.1, this.1.2, this.2.imp id (fun h => h.1)⟩
  exact ⟨h1, h2, fun i hi => by
    rcases (hk (i + 1) hi).2.2 with h | h
    · omega
    · simpa using h, fun i hi => (hk i hi).1.1, fun i hi => (hk i hi).1.2, fun i hi => (hk i hi).2.1.1, fun i hi => (hk i hi).2.1.2⟩
theorem valid_rise {b : Bnch} (h : b.valid = true) (hw : b.weighs = false) : ∀ i, i + 1 < b.n → (b.t i).value ≤ (b.t (i + 1)).value := fun i hi => by
  have := (valid_all h).1 (i + 1) hi
  simp only [markOk, Bool.and_eq_true, Bool.or_eq_true, withinB, decide_eq_true_eq, hw] at this
  rcases this.2 with h | h
  · omega
  · simpa using h.2
/-- the first and the last number of a table -/
def Bnch.first (b : Bnch) : Int := (b.t 0).at_
def Bnch.last (b : Bnch) : Int := (b.t (b.n - 1)).at_
def Bnch.scaleOk (b : Bnch) (x : Ctch) : Bool := spanB x.beg 0 10000000 && spanB x.fin 0 10000000 && spanB x.warm b.first b.last
def Bnch.tankOk (b : Bnch) (x : Ctch) : Bool := spanB x.beg b.first b.last && spanB x.fin b.first b.last
def Bnch.rightB (b : Bnch) (x : Ctch) : Bool := if b.weighs then b.scaleOk x else b.tankOk x
set_option maxHeartbeats 400000 in
theorem ends_any (b : Bnch) (oa : Option Addr) (cap : Nat) (w : World) (h1 : 1 ≤ b.n) (hn : b.n ≤ 1000000) (hT : MarksAt w oa b.n b.t) :
    Calls Tryd.prog 62 #[.slice oa b.n cap] w fun e w' => e = .returned (.tuple #[.int .i64 b.first, .int .i64 b.last]) ∧ Below w.heap.size w w' := by
  have HT := Lib.hid hT
  clear hT
  obtain ⟨bb, off, rfl, hlt, p0, -⟩ := HT.out 0 (by omega)
  obtain ⟨bb', off', e1, -, q0, -⟩ := HT.out (b.n - 1) (by omega)
  cases e1
  simp only [Nat.zero_mul, Nat.add_zero] at p0
  have ek1 : ((b.n : Int) - 1).toNat = b.n - 1 := by omega
  have ek2 : (0 : Int) ≤ (b.n : Int) - 1 := by omega
  have ek3 : (b.n : Int) - 1 < (b.n : Int) := by omega
  have ek4 : (0 : Int) < (b.n : Int) := by omega
  go_enter Tryd.func62, Tryd.ntmps62
  go_wp2_with fail
  go_big_quiet (fail)
  go_wp2_with fail
  refine bodyPost_ret (results_tmp2 rfl _ _ _) rfl ⟨rfl, (by repeat' (first | exact Below.refl _ _ | assumption | apply below_drewN | apply Below.drew | (refine Below.alloc ?_ ?_ _) | (refine Below.setCell ?_ ?_ _) | (simp; done) | (simp; omega) | omega))⟩
set_option maxHeartbeats 1000000 in
theorem scaleRight_any (b : Bnch) (x : Ctch) (oa : Option Addr) (cap : Nat) (w : World) (h1 : 1 ≤ b.n) (hn : b.n ≤ 1000000) (hT : MarksAt w oa b.n b.t) :
    Calls Tryd.prog 60 #[b.val oa cap, x.val] w fun e w' => e = .returned (.bool (b.scaleOk x)) ∧ Below w.heap.size w w' := by
  have HT := Lib.hid hT
  clear hT
  go_enter Tryd.func60, Tryd.ntmps60
  go_wp2_with fail
  have HC := Lib.hid (two_catch 104 b oa cap x w)
  have hbw := two_below 104 b oa cap x w
  refine (ends_any b oa cap _ h1 hn (HT.out.mono hbw)).mono ?_
  rintro e wa ⟨rfl, hb1⟩
  have HC1 := Lib.hid (HC.out.below hb1)
  have hbw1 := hbw.trans (hb1.mono hbw.size)
  obtain ⟨y0, y1, y2, y3, y4, y5, y6⟩ := CB.cells (x := x) HC1.out
  clear hb1 hbw HC
  go_wp2_with fail
  refine (isSpan_any x.beg _ _ _).mono ?_
  rintro e w0 ⟨rfl, hb⟩
  have HC2 := Lib.hid (HC1.out.below hb)
  have hbw2 := hbw1.trans (hb.mono hbw1.size)
  clear y0 y1 y2 y3 y4 y5 y6 hb
  obtain ⟨y0, y1, y2, y3, y4, y5, y6⟩ := CB.cells (x := x) HC2.out
  by_cases c0 : spanB x.beg 0 10000000 = true
  case neg =>
    replace c0 : spanB x.beg 0 10000000 = false := by simpa using c0
    go_wp2_with fail
    go_ret
    exact ⟨ret_bool (by simp [Bnch.scaleOk, c0]), hbw2⟩
  go_wp2_with fail
  refine (isSpan_any x.fin _ _ _).mono ?_
  rintro e w1 ⟨rfl, hb⟩
  have HC3 := Lib.hid (HC2.out.below hb)
  have hbw3 := hbw2.trans (hb.mono hbw2.size)
  clear y0 y1 y2 y3 y4 y5 y6 hb
  obtain ⟨y0, y1, y2, y3, y4, y5, y6⟩ := CB.cells (x := x) HC3.out
  by_cases c1 : spanB x.fin 0 10000000 = true
  case neg =>
    replace c1 : spanB x.fin 0 10000000 = false := by simpa using c1
    go_wp2_with fail
    go_ret
    exact ⟨ret_bool (by simp [Bnch.scaleOk, c0, c1]), hbw3⟩
  go_wp2_with fail
  refine (isSpan_any x.warm _ _ _).mono ?_
  rintro e w2 ⟨rfl, hb⟩
  have HC4 := Lib.hid (HC3.out.below hb)
  have hbw4 := hbw3.trans (hb.mono hbw3.size)
  clear y0 y1 y2 y3 y4 y5 y6 hb
  obtain ⟨y0, y1, y2, y3, y4, y5, y6⟩ := CB.cells (x := x) HC4.out
  go_wp2_with fail
  go_ret
  exact ⟨ret_bool (by simp [Bnch.scaleOk, c0, c1]), hbw4⟩
set_option maxHeartbeats 1000000 in
theorem tankRight_any (b : Bnch) (x : Ctch) (oa : Option Addr) (cap : Nat) (w : World) (h1 : 1 ≤ b.n) (hn : b.n ≤ 1000000) (hT : MarksAt w oa b.n b.t) :
    Calls Tryd.prog 72 #[b.val oa cap, x.val] w fun e w' => e = .returned (.bool (b.tankOk x)) ∧ Below w.heap.size w w' := by
  have HT := Lib.hid hT
  clear hT
  go_enter Tryd.func72, Tryd.ntmps72
  go_wp2_with fail
  have HC := Lib.hid (two_catch 105 b oa cap x w)
  have hbw := two_below 105 b oa cap x w
  refine (ends_any b oa cap _ h1 hn (HT.out.mono hbw)).mono ?_
  rintro e wa ⟨rfl, hb1⟩
  have HC1 := Lib.hid (HC.out.below hb1)
  have hbw1 := hbw.trans (hb1.mono hbw.size)
  obtain ⟨y0, y1, y2, y3, y4, y5, y6⟩ := CB.cells (x := x) HC1.out
  clear hb1 hbw HC
  go_wp2_with fail
  refine (isSpan_any x.beg _ _ _).mono ?_
  rintro e w0 ⟨rfl, hb⟩
  have HC2 := Lib.hid (HC1.out.below hb)
  have hbw2 := hbw1.trans (hb.mono hbw1.size)
  clear y0 y1 y2 y3 y4 y5 y6 hb
  obtain ⟨y0, y1, y2, y3, y4, y5, y6⟩ := CB.cells (x := x) HC2.out
  by_cases c0 : spanB x.beg b.first b.last = true
  case neg =>
    replace c0 : spanB x.beg b.first b.last = false := by simpa using c0
    go_wp2_with fail
    go_ret
    exact ⟨ret_bool (by simp [Bnch.tankOk, c0]), hbw2⟩
  go_wp2_with fail
  refine (isSpan_any x.fin _ _ _).mono ?_
  rintro e w1 ⟨rfl, hb⟩
  have HC3 := Lib.hid (HC2.out.below hb)
  have hbw3 := hbw2.trans (hb.mono hbw2.size)
  clear y0 y1 y2 y3 y4 y5 y6 hb
  obtain ⟨y0, y1, y2, y3, y4, y5, y6⟩ := CB.cells (x := x) HC3.out
  go_wp2_with fail
  go_ret
  exact ⟨ret_bool (by simp [Bnch.tankOk, c0]), hbw3⟩
end Go.Proofs.YtlofopnjjeeehaaDoor.Bn
namespace Go.Proofs.YtlofopnjjeeehaaDoor.Bn
open Go.RowKit
end Go.Proofs.YtlofopnjjeeehaaDoor.Bn
namespace Go.Proofs.YtlofopnjjeeehaaDoor.Bn
open Go.RowKit
/-- a density: a fraction of a table -/
structure Dense (f : Frac) : Prop where
  u0 : 0 < f.under
  u1 : f.under ≤ 10000
  t0 : f.under ≤ f.top
  t1 : f.top ≤ 10000000 * f.under
theorem Dense.mul {a b : Frac} (ha : Dense a) (hb : Dense b) : -4000000000000000000 ≤ a.top * b.under ∧ a.top * b.under ≤ 4000000000000000000 := by
  have h1 := ha.u0
  have h2 := ha.u1
  have h3 := ha.t0
  have h4 := ha.t1
  have h5 := hb.u0
  have h6 := hb.u1
  have := mulb (a := a.top) (b := b.under) (x := 100000000000) (y := 10000) (by omega) (by omega) (by omega) (by omega)
  omega
def Frac.lt (a b : Frac) : Bool := decide (a.top * b.under < b.top * a.under)
set_option maxHeartbeats 400000 in
theorem thin_any (a b : Frac) (w : World) (ha : Dense a) (hb : Dense b) :
    Calls Tryd.prog 65 #[a.val, b.val] w fun e w' => e = .returned (.bool (a.lt b)) ∧ Below w.heap.size w w' := by
  have h1 := ha.mul hb
  have h2 := hb.mul ha
  go_enter Tryd.func65, Tryd.ntmps65
  go_wp2_with (go_at_call 59; refine (compare_any a b _ h1 h2).mono ?_; rintro e w1 ⟨rfl, hb1⟩)
  go_ret
  exact ⟨ret_bool (by simp [Frac.lt] <;> omega), (Below.trans ((by repeat' (first | exact Below.refl _ _ | assumption | apply below_drewN | apply Below.drew | (refine Below.alloc ?_ ?_ _) | (refine Below.setCell ?_ ?_ _) | (simp; done) | (simp; omega) | omega))) (Below.mono hb1 (by simp <;> omega)))⟩
set_option maxHeartbeats 400000 in
theorem thick_any (a b : Frac) (w : World) (ha : Dense a) (hb : Dense b) :
    Calls Tryd.prog 66 #[a.val, b.val] w fun e w' => e = .returned (.bool (b.lt a)) ∧ Below w.heap.size w w' := by
  have h1 := ha.mul hb
  have h2 := hb.mul ha
  go_enter Tryd.func66, Tryd.ntmps66
  go_wp2_with (go_at_call 59; refine (compare_any a b _ h1 h2).mono ?_; rintro e w1 ⟨rfl, hb1⟩)
  go_ret
  exact ⟨ret_bool (by simp [Frac.lt] <;> omega), (Below.trans ((by repeat' (first | exact Below.refl _ _ | assumption | apply below_drewN | apply Below.drew | (refine Below.alloc ?_ ?_ _) | (refine Below.setCell ?_ ?_ _) | (simp; done) | (simp; omega) | omega))) (Below.mono hb1 (by simp <;> omega)))⟩
set_option maxHeartbeats 400000 in
theorem borne_any (g y : Int) (d : Frac) (w : World) (hy : 0 ≤ y ∧ y ≤ 10000) (h1 : -1000000000000000000 ≤ g * (1000000 + y) ∧ g * (1000000 + y) ≤ 1000000000000000000) (h2 : -4000000000000000000 ≤ g * (1000000 + y) * d.under ∧ g * (1000000 + y) * d.under ≤ 4000000000000000000) :
    Calls Tryd.prog 67 #[.int .i64 g, .int .i64 y, d.val] w fun e w' => e = .returned (Frac.val ⟨g * (1000000 + y) * d.under, d.top⟩) ∧ Below w.heap.size w w' := by
  go_enter Tryd.func67, Tryd.ntmps67
  go_wp2
  refine bodyPost_ret (v := .agg #[.int .i64 (g * (1000000 + y) * d.under), .int .i64 d.top]) (by simp [results, Tryd.results67, go_sem]) rfl ⟨rfl, (by repeat' (first | exact Below.refl _ _ | assumption | apply below_drewN | apply Below.drew | (refine Below.alloc ?_ ?_ _) | (refine Below.setCell ?_ ?_ _) | (simp; done) | (simp; omega) | omega))⟩
def FracsAt (w : World) (oa : Option Addr) (n : Nat) (t : Nat → Frac) : Prop :=
  ∀ i, i < n → ∃ b off, oa = some ⟨b, off, none⟩ ∧ b < w.heap.size ∧ w.cell? ⟨b, off + i * 2, none⟩ = some (.int .i64 (t i).top) ∧ w.cell? ⟨b, off + i * 2 + 1, none⟩ = some (.int .i64 (t i).under)
theorem FracsAt.mono {w w' : World} {oa : Option Addr} {n : Nat} {t : Nat → Frac} (h : FracsAt w oa n t) (hb : Below w.heap.size w w') : FracsAt w' oa n t := fun i hi => by
  obtain ⟨b, off, ha, hlt, h0, h1⟩ := h i hi
  exact ⟨b, off, ha, Nat.lt_of_lt_of_le hlt hb.size, (hb.cell (p := ⟨b, off + i * 2, none⟩) hlt).trans h0, (hb.cell (p := ⟨b, off + i * 2 + 1, none⟩) hlt).trans h1⟩
/-- the best of the first k things, after a first one -/
def bestN (better : Frac → Frac → Bool) (t : Nat → Frac) (first : Frac) : Nat → Frac
  | 0 => first
  | k + 1 => if better (t k) (bestN better t first k) then t k else bestN better t first k
theorem bestN_dense {better : Frac → Frac → Bool} {t : Nat → Frac} {first : Frac} (hf : Dense first) : ∀ {k : Nat}, (∀ i, i < k → Dense (t i)) → Dense (bestN better t first k)
  | 0, _ => hf
  | k + 1, h => by
    unfold bestN
    split
    · exact h k (by omega)
    · exact bestN_dense hf fun i hi => h i (by omega)
set_option maxHeartbeats 2000000 in
theorem bestThin_any (first : Frac) (oa : Option Addr) (n cap : Nat) (t : Nat → Frac) (w : World) (hn : n ≤ 1000000) (hT : FracsAt w oa n t) (hf : Dense first) (hd : ∀ i, i < n → Dense (t i)) :
    Calls Tryd.prog 64 #[.func (.func 65) #[] #[], first.val, .slice oa n cap] w fun e w' => e = .returned (bestN Frac.lt t first n).val ∧ Below w.heap.size w w' := by
  have HT := Lib.hid hT
  have HD := Lib.hid hd
  have HF := Lib.hid hf
  clear hT hd hf
  go_enter Tryd.func64, Tryd.ntmps64
  go_wp2_with fail
  have HB := Lib.hid ((Box.new #[.int .i64 first.top, .int .i64 first.under] 83 w rfl).old (.cells #[.int .i64 0, .int .i64 0] 83))
  have HR := Lib.hid (Box.new (g := w.heap.size + 1) #[.int .i64 0, .int .i64 0] 83 (w.alloc (.cells #[.int .i64 first.top, .int .i64 first.under] 83)) (by simp))
  have hbw : Below w.heap.size w ((w.alloc (.cells #[.int .i64 first.top, .int .i64 first.under] 83)).alloc (.cells #[.int .i64 0, .int .i64 0] 83)) := (by repeat' (first | exact Below.refl _ _ | assumption | apply below_drewN | apply Below.drew | (refine Below.alloc ?_ ?_ _) | (refine Below.setCell ?_ ?_ _) | (simp; done) | (simp; omega) | omega))
  obtain ⟨w0, hw0⟩ : ∃ X, X = (w.alloc (.cells #[.int .i64 first.top, .int .i64 first.under] 83)).alloc (.cells #[.int .i64 0, .int .i64 0] 83) := ⟨_, rfl⟩
  rw [← hw0] at HB HR hbw ⊢
  clear hw0
  go_loopw [11] (fun v11 wr => ∃ k : Nat, k ≤ n ∧ v11 = .int .i64 k ∧ Below w.heap.size w wr ∧ Box (w.heap.size + 1) #[.int .i64 0, .int .i64 0] 83 wr ∧ Box w.heap.size #[.int .i64 (bestN Frac.lt t first k).top, .int .i64 (bestN Frac.lt t first k).under] 83 wr) (fun i _ => n - (intOf i).toNat)
  case atStart => exact ⟨0, Nat.zero_le _, rfl, hbw, HR.out, HB.out⟩
  case round =>
    obtain ⟨k, hk, rfl, hb, hr, hx⟩ := hrel
    have HX := Lib.hid hx
    have HS := Lib.hid hr
    clear HB HR hbw hr hx
    have hl := HS.out.lt
    have hl2 : w.heap.size < wr.heap.size := by omega
    have hl3 : ¬ w.heap.size = wr.heap.size := by omega
    have x0 := HX.out.cell 0 rfl
    have x1 := HX.out.cell 1 rfl
    have y0 := HX.out.frozen 0
    have y1 := HX.out.frozen 1
    by_cases hlt : k < n
    · obtain ⟨b, off, rfl, hlt0, c0, c1⟩ := (HT.out.mono hb) k hlt
      have DK := HD.out k hlt
      have DX := bestN_dense (better := Frac.lt) HF.out (k := k) (fun i hi => HD.out i (by omega))
      obtain ⟨f, hf⟩ : ∃ f, f = bestN Frac.lt t first k := ⟨_, rfl⟩
      rw [← hf] at x0 x1 HX DX
      have DK2 := Lib.hid DK
      have DX2 := Lib.hid DX
      have HE := Lib.hid hf
      clear DK DX hf
      go_wp2_with fail
      refine (thin_any (t k) f _ DK2.out DX2.out).mono ?_
      rintro e w2 ⟨rfl, hb2⟩
      have hbA := below_alloc1 wr (.cells #[.int .i64 (t k).top, .int .i64 (t k).under] 83)
      have N := (Box.new #[.int .i64 (t k).top, .int .i64 (t k).under] 83 wr rfl).below hb2
      have hbz := hbA.trans (hb2.mono hbA.size)
      have HX2 := Lib.hid (HX.out.below hbz)
      have HS2 := Lib.hid (HS.out.below hbz)
      have hbw2 := hb.trans (hbz.mono hb.size)
      have n0 := N.cell 0 rfl
      have n1 := N.cell 1 rfl
      have z0 := HX2.out.cell 0 rfl
      have z1 := HX2.out.cell 1 rfl
      have v0 := HX2.out.frozen 0
      have v1 := HX2.out.frozen 1
      clear x0 x1 y0 y1 N hbz hbA hb2
      by_cases hc : (t k).lt f = true
      · have e2 : bestN Frac.lt t first (k + 1) = t k := by rw [bestN, ← HE.out]; exact if_pos hc
        have E2 := Lib.hid e2
        clear e2
        go_wp2_with fail
        go_roundw
        case rel => exact ⟨k + 1, by omega, by go_num, (by repeat' (first | exact Below.refl _ _ | assumption | apply below_drewN | apply Below.drew | (refine Below.alloc ?_ ?_ _) | (refine Below.setCell ?_ ?_ _) | (simp; done) | (simp; omega) | omega)), by have h := (HS2.out.other (g' := w.heap.size) (by omega) 0 (.int .i64 (t k).top)).other (g' := w.heap.size) (by omega) 1 (.int .i64 (t k).under); exact h, by rw [E2.out]; exact HX2.out.set2 _ _⟩
        case measure => simp [intOf]; omega
      · replace hc : (t k).lt f = false := by simpa using hc
        have e2 : bestN Frac.lt t first (k + 1) = f := by rw [bestN, ← HE.out, if_neg (by rw [hc]; simp)]
        have E2 := Lib.hid e2
        clear e2
        go_wp2_with fail
        go_roundw
        case rel => exact ⟨k + 1, by omega, by go_num, hbw2, HS2.out, by rw [E2.out]; exact HX2.out⟩
        case measure => simp [intOf]; omega
    · obtain rfl : k = n := by omega
      have s0 := HS.out.cell 0 rfl
      have s1 := HS.out.cell 1 rfl
      have t0 := HS.out.frozen 0
      have t1 := HS.out.frozen 1
      go_wp2_with fail
      have pq := put2 s0 s1 (.int .i64 (bestN Frac.lt t first k).top) (.int .i64 (bestN Frac.lt t first k).under)
      refine bodyPost_ret (v := .agg #[.int .i64 (bestN Frac.lt t first k).top, .int .i64 (bestN Frac.lt t first k).under]) (by simp [results, Tryd.results64, go_sem, pq.1, pq.2]) rfl ⟨rfl, (by repeat' (first | exact Below.refl _ _ | assumption | apply below_drewN | apply Below.drew | (refine Below.alloc ?_ ?_ _) | (refine Below.setCell ?_ ?_ _) | (simp; done) | (simp; omega) | omega))⟩
set_option maxHeartbeats 2000000 in
theorem bestThick_any (first : Frac) (oa : Option Addr) (n cap : Nat) (t : Nat → Frac) (w : World) (hn : n ≤ 1000000) (hT : FracsAt w oa n t) (hf : Dense first) (hd : ∀ i, i < n → Dense (t i)) :
    Calls Tryd.prog 64 #[.func (.func 66) #[] #[], first.val, .slice oa n cap] w fun e w' => e = .returned (bestN (fun a b => Frac.lt b a) t first n).val ∧ Below w.heap.size w w' := by
  have HT := Lib.hid hT
  have HD := Lib.hid hd
  have HF := Lib.hid hf
  clear hT hd hf
  go_enter Tryd.func64, Tryd.ntmps64
  go_wp2_with fail
  have HB := Lib.hid ((Box.new #[.int .i64 first.top, .int .i64 first.under] 83 w rfl).old (.cells #[.int .i64 0, .int .i64 0] 83))
  have HR := Lib.hid (Box.new (g := w.heap.size + 1) #[.int .i64 0, .int .i64 0] 83 (w.alloc (.cells #[.int .i64 first.top, .int .i64 first.under] 83)) (by simp))
  have hbw : Below w.heap.size w ((w.alloc (.cells #[.int .i64 first.top, .int .i64 first.under] 83)).alloc (.cells #[.int .i64 0, .int .i64 0] 83)) := (by repeat' (first | exact Below.refl _ _ | assumption | apply below_drewN | apply Below.drew | (refine Below.alloc ?_ ?_ _) | (refine Below.setCell ?_ ?_ _) | (simp; done) | (simp; omega) | omega))
  obtain ⟨w0, hw0⟩ : ∃ X, X = (w.alloc (.cells #[.int .i64 first.top, .int .i64 first.under] 83)).alloc (.cells #[.int .i64 0, .int .i64 0] 83) := ⟨_, rfl⟩
  rw [← hw0] at HB HR hbw ⊢
  clear hw0
  go_loopw [11] (fun v11 wr => ∃ k : Nat, k ≤ n ∧ v11 = .int .i64 k ∧ Below w.heap.size w wr ∧ Box (w.heap.size + 1) #[.int .i64 0, .int .i64 0] 83 wr ∧ Box w.heap.size #[.int .i64 (bestN (fun a b => Frac.lt b a) t first k).top, .int .i64 (bestN (fun a b => Frac.lt b a) t first k).under] 83 wr) (fun i _ => n - (intOf i).toNat)
  case atStart => exact ⟨0, Nat.zero_le _, rfl, hbw, HR.out, HB.out⟩
  case round =>
    obtain ⟨k, hk, rfl, hb, hr, hx⟩ := hrel
    have HX := Lib.hid hx
    have HS := Lib.hid hr
    clear HB HR hbw hr hx
    have hl := HS.out.lt
    have hl2 : w.heap.size < wr.heap.size := by omega
    have hl3 : ¬ w.heap.size = wr.heap.size := by omega
    have x0 := HX.out.cell 0 rfl
    have x1 := HX.out.cell 1 rfl
    have y0 := HX.out.frozen 0
    have y1 := HX.out.frozen 1
    by_cases hlt : k < n
    · obtain ⟨b, off, rfl, hlt0, c0, c1⟩ := (HT.out.mono hb) k hlt
      have DK := HD.out k hlt
      have DX := bestN_dense (better := (fun a b => Frac.lt b a)) HF.out (k := k) (fun i hi => HD.out i (by omega))
      obtain ⟨f, hf⟩ : ∃ f, f = bestN (fun a b => Frac.lt b a) t first k := ⟨_, rfl⟩
      rw [← hf] at x0 x1 HX DX
      have DK2 := Lib.hid DK
      have DX2 := Lib.hid DX
      have HE := Lib.hid hf
      clear DK DX hf
      go_wp2_with fail
      refine (thick_any (t k) f _ DK2.out DX2.out).mono ?_
      rintro e w2 ⟨rfl, hb2⟩
      have hbA := below_alloc1 wr (.cells #[.int .i64 (t k).top, .int .i64 (t k).under] 83)
      have N := (Box.new #[.int .i64 (t k).top, .int .i64 (t k).under] 83 wr rfl).below hb2
      have hbz := hbA.trans (hb2.mono hbA.size)
      have HX2 := Lib.hid (HX.out.below hbz)
      have HS2 := Lib.hid (HS.out.below hbz)
      have hbw2 := hb.trans (hbz.mono hb.size)
      have n0 := N.cell 0 rfl
      have n1 := N.cell 1 rfl
      have z0 := HX2.out.cell 0 rfl
      have z1 := HX2.out.cell 1 rfl
      have v0 := HX2.out.frozen 0
      have v1 := HX2.out.frozen 1
      clear x0 x1 y0 y1 N hbz hbA hb2
      by_cases hc : f.lt (t k) = true
      · have e2 : bestN (fun a b => Frac.lt b a) t first (k + 1) = t k := by rw [bestN, ← HE.out]; exact if_pos hc
        have E2 := Lib.hid e2
        clear e2
        go_wp2_with fail
        go_roundw
        case rel => exact ⟨k + 1, by omega, by go_num, (by repeat' (first | exact Below.refl _ _ | assumption | apply below_drewN | apply Below.drew | (refine Below.alloc ?_ ?_ _) | (refine Below.setCell ?_ ?_ _) | (simp; done) | (simp; omega) | omega)), by have h := (HS2.out.other (g' := w.heap.size) (by omega) 0 (.int .i64 (t k).top)).other (g' := w.heap.size) (by omega) 1 (.int .i64 (t k).under); exact h, by rw [E2.out]; exact HX2.out.set2 _ _⟩
        case measure => simp [intOf]; omega
      · replace hc : f.lt (t k) = false := by simpa using hc
        have e2 : bestN (fun a b => Frac.lt b a) t first (k + 1) = f := by rw [bestN, ← HE.out, if_neg (by rw [hc]; simp)]
        have E2 := Lib.hid e2
        clear e2
        go_wp2_with fail
        go_roundw
        case rel => exact ⟨k + 1, by omega, by go_num, hbw2, HS2.out, by rw [E2.out]; exact HX2.out⟩
        case measure => simp [intOf]; omega
    · obtain rfl : k = n := by omega
      have s0 := HS.out.cell 0 rfl
      have s1 := HS.out.cell 1 rfl
      have t0 := HS.out.frozen 0
      have t1 := HS.out.frozen 1
      go_wp2_with fail
      have pq := put2 s0 s1 (.int .i64 (bestN (fun a b => Frac.lt b a) t first k).top) (.int .i64 (bestN (fun a b => Frac.lt b a) t first k).under)
      refine bodyPost_ret (v := .agg #[.int .i64 (bestN (fun a b => Frac.lt b a) t first k).top, .int .i64 (bestN (fun a b => Frac.lt b a) t first k).under]) (by simp [results, Tryd.results64, go_sem, pq.1, pq.2]) rfl ⟨rfl, (by repeat' (first | exact Below.refl _ _ | assumption | apply below_drewN | apply Below.drew | (refine Below.alloc ?_ ?_ _) | (refine Below.setCell ?_ ?_ _) | (simp; done) | (simp; omega) | omega))⟩
end Go.Proofs.YtlofopnjjeeehaaDoor.Bn
