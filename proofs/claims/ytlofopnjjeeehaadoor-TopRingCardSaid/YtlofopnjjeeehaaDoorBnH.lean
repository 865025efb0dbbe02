/- How a bench measures, by whether it weighs: the map of methods, and what is looked up in it. What goes through is within bounds; plain, no program in sight. Water returns what goes through the meters, or why it is not known. -/
import Derived.Test.YtlofopnjjeeehaaDoorBnG
namespace Go.Proofs.YtlofopnjjeeehaaDoor.Bn
open Go.RowKit
set_option maxHeartbeats 400000 in
theorem scaleOf_any (b : Bnch) (oa : Option Addr) (cap : Nat) (w : World) :
    Calls Tryd.prog 36 #[b.val oa cap] w fun e w' => e = .returned (.iface 104 (b.val oa cap)) ∧ Below w.heap.size w w' := by
  go_enter Tryd.func36, Tryd.ntmps36
  go_wp2
  go_ret
  exact ⟨rfl, (by repeat' (first | exact Below.refl _ _ | assumption | apply below_drewN | apply Below.drew | (refine Below.alloc ?_ ?_ _) | (refine Below.setCell ?_ ?_ _) | (simp; done) | (simp; omega) | omega))⟩
set_option maxHeartbeats 400000 in
theorem tankOf_any (b : Bnch) (oa : Option Addr) (cap : Nat) (w : World) :
    Calls Tryd.prog 37 #[b.val oa cap] w fun e w' => e = .returned (.iface 105 (b.val oa cap)) ∧ Below w.heap.size w w' := by
  go_enter Tryd.func37, Tryd.ntmps37
  go_wp2
  go_ret
  exact ⟨rfl, (by repeat' (first | exact Below.refl _ _ | assumption | apply below_drewN | apply Below.drew | (refine Below.alloc ?_ ?_ _) | (refine Below.setCell ?_ ?_ _) | (simp; done) | (simp; omega) | omega))⟩
section
variable {P : Program}
/-- a map from Booleans, a key more -/
theorem run_update_bool {t K E : TypeId} (ht : P.underlying t = some (.map K E)) (hK : P.underlying K = some .bool) {w : World} {r n : Nat} {es : Array MapEntry} {k : Bool} (hr : w.heap[r]? = some (.map es n)) (hf : Instr.findNow .bool (.bool k) es.toList 0 = some none) (v : Value) :
    (Instr.mapUpdate t (.map (some r)) (.bool k) v).run P w = .ok () (w.putObj r (.map (es.push { key := .bool k, val := v, born := n }) (n + 1))) := by
  have hk : MapKept.IsKey .bool (.bool k) := by simp [MapKept.IsKey]
  simp [Instr.mapUpdate, run_underlying ht, MapKept.run_getObj_map hr, MapKept.run_checkKey hK hk, MapKept.run_findKey hK hf, Result.andThen, MapKept.run_setObj_map _ hr, World.putObj]
theorem run_lookup_bool {t K E : TypeId} (ht : P.underlying t = some (.map K E)) (hK : P.underlying K = some .bool) {w : World} {r n j : Nat} {es : Array MapEntry} {k : Bool} {v : Value} (hr : w.heap[r]? = some (.map es n)) (hf : Instr.findNow .bool (.bool k) es.toList 0 = some (some (j, v))) :
    (Instr.lookup t (.map (some r)) (.bool k) false).run P w = .ok v w := by
  have hk : MapKept.IsKey .bool (.bool k) := by simp [MapKept.IsKey]
  simp [Instr.lookup, run_underlying ht, MapKept.run_getObj_map hr, MapKept.run_checkKey hK hk, MapKept.run_findKey hK hf, Result.andThen]
end
/-- the map of the methods -/
def methodsO : Obj := .map #[{ key := .bool true, val := .func (.func 36) #[] #[], born := 0 }, { key := .bool false, val := .func (.func 37) #[] #[], born := 1 }] 2
set_option maxRecDepth 100000 in
set_option maxHeartbeats 400000 in
theorem methods_any (w : World) :
    Calls Tryd.prog 22 #[] w fun e w' => e = .returned (.map (some w.heap.size)) ∧ w'.heap[w.heap.size]? = some methodsO ∧ Below w.heap.size w w' := by
  have hmm := @run_makeMap Tryd.prog
  have h1 : (w.alloc (.map #[] 0)).heap[w.heap.size]? = some (.map #[] 0) := World.alloc_heap_new _ _
  have u1 := run_update_bool (P := Tryd.prog) (t := 79) Tryd.underlying79 Tryd.underlying4 (k := true) h1 rfl (.func (.func 36) #[] #[])
  have h2 : ((w.alloc (.map #[] 0)).putObj w.heap.size (.map #[{ key := .bool true, val := .func (.func 36) #[] #[], born := 0 }] 1)).heap[w.heap.size]? = some (.map #[{ key := .bool true, val := .func (.func 36) #[] #[], born := 0 }] 1) := World.putObj_heap_same (by simp)
  have u2 := run_update_bool (P := Tryd.prog) (t := 79) Tryd.underlying79 Tryd.underlying4 (k := false) h2 rfl (.func (.func 37) #[] #[])
  have h3 : (((w.alloc (.map #[] 0)).putObj w.heap.size (.map #[{ key := .bool true, val := .func (.func 36) #[] #[], born := 0 }] 1)).putObj w.heap.size methodsO).heap[w.heap.size]? = some methodsO := World.putObj_heap_same (by simp)
  have H3 := Lib.hid h3
  clear h3
  go_enter Tryd.func22, Tryd.ntmps22
  go_wp2
  go_ret
  exact ⟨rfl, H3.out, below_putObj (below_putObj (below_alloc1 _ _) (Nat.le_refl _) _) (Nat.le_refl _) _⟩
end Go.Proofs.YtlofopnjjeeehaaDoor.Bn
namespace Go.Proofs.YtlofopnjjeeehaaDoor.Bn
def Bnch.waterF (b : Bnch) (x : Ctch) : Frac × Frac × Bool := if b.weighs then b.scaleW x else b.tankW x
def Bnch.waterR (b : Bnch) (x : Ctch) : Spn × Int :=
  if b.valid then
    if b.rightB x then
      if (b.waterF x).2.2 && decide ((b.waterF x).1.under ≤ (b.waterF x).1.top) then (⟨(b.waterF x).1.down + b.air.lo, (b.waterF x).2.1.up + b.air.hi⟩, 0) else (⟨0, 0⟩, 10)
    else (⟨0, 0⟩, 2)
  else (⟨0, 0⟩, 1)
/-- rounding by its side -/
def rnd (s t u : Int) : Int := if s = 0 then t / u else -((-t) / u)
theorem round_tu (t u s : Int) (w : Go.World) (hs : s = 0 ∨ s = 1) (hu : 0 < u) (h : -4000000000000000000 ≤ t ∧ t ≤ 4000000000000000000) :
    Go.Calls Tryd.prog 23 #[.agg #[.int .i64 t, .int .i64 u], .int .i64 s] w fun e w' => e = .returned (.int .i64 (rnd s t u)) ∧ Go.RowKit.Below w.heap.size w w' := by
  rcases hs with rfl | rfl
  · exact round_down ⟨t, u⟩ w hu h
  · exact round_up ⟨t, u⟩ w hu h
theorem waterR_no {b : Bnch} {x : Ctch} (hv : b.valid = true) (hr : b.rightB x = true) (hs : ¬ ((b.waterF x).2.2 && decide ((b.waterF x).1.under ≤ (b.waterF x).1.top)) = true) : b.waterR x = (⟨0, 0⟩, 10) := by
  unfold Bnch.waterR
  rw [if_pos hv, if_pos hr, if_neg hs]
theorem waterR_yes {b : Bnch} {x : Ctch} (hv : b.valid = true) (hr : b.rightB x = true) (hs : ((b.waterF x).2.2 && decide ((b.waterF x).1.under ≤ (b.waterF x).1.top)) = true) : b.waterR x = (⟨(b.waterF x).1.down + b.air.lo, (b.waterF x).2.1.up + b.air.hi⟩, 0) := by
  unfold Bnch.waterR
  rw [if_pos hv, if_pos hr, if_pos hs]
/-- a fraction that is not too great -/
structure Frac.Ok (f : Frac) : Prop where
  u0 : 0 < f.under
  u1 : f.under ≤ 100000000000
  t0 : -50000000000000 * f.under ≤ f.top
  t1 : f.top ≤ 50000000000000 * f.under
  t2 : -4000000000000000000 ≤ f.top ∧ f.top ≤ 4000000000000000000
theorem Frac.Ok.down {f : Frac} (h : f.Ok) : -50000000000000 ≤ f.down ∧ f.down ≤ 50000000000000 := by
  constructor
  · exact (Int.le_ediv_iff_mul_le h.u0).2 h.t0
  · have := h.t1
    have h1 := h.u0
    have : f.top / f.under < 50000000000000 + 1 := (Int.ediv_lt_iff_lt_mul h.u0).2 (by rw [Int.add_mul]; omega)
    unfold Frac.down; omega
theorem Frac.Ok.up {f : Frac} (h : f.Ok) : -50000000000000 ≤ f.up ∧ f.up ≤ 50000000000000 := by
  have h1 := h.u0
  have a : -50000000000000 ≤ (-f.top) / f.under := (Int.le_ediv_iff_mul_le h.u0).2 (by have := h.t1; omega)
  have b : (-f.top) / f.under < 50000000000000 + 1 := (Int.ediv_lt_iff_lt_mul h.u0).2 (by have := h.t0; rw [Int.add_mul]; omega)
  unfold Frac.up; omega
theorem scale_ok {g y : Int} {d : Frac} (hd : Dense d) (hg : 0 < g ∧ g ≤ 30000000) (hy : 0 ≤ y ∧ y ≤ 10000) : Frac.Ok ⟨g * (1000000 + y) * d.under, d.top⟩ := by
  have u0 := hd.u0
  have u1 := hd.u1
  have u2 := hd.t0
  have u3 := hd.t1
  have m1 := mulb (a := g) (b := 1000000 + y) (x := 30000000) (y := 1010000) (by omega) (by omega) (by omega) (by omega)
  have m2 := mulb (a := g * (1000000 + y)) (b := d.under) (x := 30000000 * 1010000) (y := 10000) m1.1 m1.2 (by omega) (by omega)
  have m3 : g * (1000000 + y) * d.under ≤ 30000000 * 1010000 * d.top := Int.mul_le_mul m1.2 u2 (by omega) (by omega)
  refine ⟨?_, ?_, ?_, ?_, ?_⟩ <;> dsimp only <;> omega
theorem tank_ok {a b : Frac} (ha : Dense a) (hb : Dense b) {n : Int} (hn : -20000000 ≤ n ∧ n ≤ 20000000) : Frac.Ok (a.minus b n) := by
  have a1 := ha.u0
  have a2 := ha.u1
  have a3 := ha.t0
  have a4 := ha.t1
  have b1 := hb.u0
  have b2 := hb.u1
  have b3 := hb.t0
  have b4 := hb.t1
  obtain ⟨q1, q2, q3, q4, q5⟩ := minus_bd ha hb hn
  have p0 : 0 < a.under * b.under := Int.mul_pos a1 b1
  have p1 := mulb (a := a.under) (b := b.under) (x := 10000) (y := 10000) (by omega) (by omega) (by omega) (by omega)
  have m1 : a.top * b.under ≤ 10000000 * a.under * b.under := Int.mul_le_mul_of_nonneg_right a4 (by omega)
  have m2 : b.top * a.under ≤ 10000000 * b.under * a.under := Int.mul_le_mul_of_nonneg_right b4 (by omega)
  have m3 : 0 ≤ a.top * b.under := Int.mul_nonneg (by omega) (by omega)
  have m4 : 0 ≤ b.top * a.under := Int.mul_nonneg (by omega) (by omega)
  have e1 : n * a.under * b.under = n * (a.under * b.under) := Int.mul_assoc _ _ _
  have e2 : 10000000 * a.under * b.under = 10000000 * (a.under * b.under) := Int.mul_assoc _ _ _
  have e3 : 10000000 * b.under * a.under = 10000000 * (a.under * b.under) := by rw [Int.mul_assoc, Int.mul_comm b.under]
  have m5 : n * (a.under * b.under) ≤ 20000000 * (a.under * b.under) := Int.mul_le_mul_of_nonneg_right hn.2 (by omega)
  have m6 : -20000000 * (a.under * b.under) ≤ n * (a.under * b.under) := Int.mul_le_mul_of_nonneg_right hn.1 (by omega)
  refine ⟨?_, ?_, ?_, ?_, ?_⟩ <;> simp only [Frac.minus] <;> omega
theorem water_ok {b : Bnch} {x : Ctch} (hv : b.valid = true) (hr : b.rightB x = true) (hi : (b.waterF x).2.2 = true) : (b.waterF x).1.Ok ∧ (b.waterF x).2.1.Ok := by
  have hV := valid_tab hv
  obtain ⟨-, hn1, hn2, ho, hbu, hai⟩ := valid_all hv
  unfold Bnch.waterF at hi ⊢
  unfold Bnch.rightB at hr
  by_cases hw : b.weighs = true
  · rw [if_pos hw] at hi hr ⊢
    simp only [Bnch.scaleOk, spanB, Bool.and_eq_true, decide_eq_true_eq] at hr
    obtain ⟨⟨hx1, hx2⟩, hx3⟩ := hr
    unfold Bnch.scaleW at hi ⊢
    by_cases hl : b.light x ≤ 0
    · rw [if_pos hl] at hi; cases hi
    · rw [if_neg hl]
      have d0 := at_dense hV hx3.1 (Int.le_trans hx3.2.1 hx3.2.2)
      have da := ext_dense hV hx3.1 hx3.2.1 hx3.2.2
      have DT : Dense (b.thin x) := bestN_dense (better := Frac.lt) (t := extF b.n b.t x.warm) d0 da
      have DK : Dense (b.thick x) := bestN_dense (better := fun a b => Frac.lt b a) (t := extF b.n b.t x.warm) d0 da
      have e1 : b.light x = x.fin.lo - x.beg.hi - 2 * b.off := rfl
      have e2 : b.heavy x = x.fin.hi - x.beg.lo + 2 * b.off := rfl
      exact ⟨scale_ok DK (by omega) (by omega), scale_ok DT (by omega) (by omega)⟩
  · rw [if_neg hw] at hi hr ⊢
    have hr : ((b.t 0).at_ ≤ x.beg.lo ∧ x.beg.lo ≤ x.beg.hi ∧ x.beg.hi ≤ (b.t (b.n - 1)).at_) ∧ ((b.t 0).at_ ≤ x.fin.lo ∧ x.fin.lo ≤ x.fin.hi ∧ x.fin.hi ≤ (b.t (b.n - 1)).at_) := by
      simp only [Bnch.tankOk, spanB, Bool.and_eq_true, decide_eq_true_eq] at hr
      exact hr
    obtain ⟨⟨p1, p2, p3⟩, p4, p5, p6⟩ := hr
    exact ⟨tank_ok (at_dense hV p4 (Int.le_trans p5 p6)) (at_dense hV (Int.le_trans p1 p2) p3) (by omega), tank_ok (at_dense hV (Int.le_trans p4 p5) p6) (at_dense hV p1 (Int.le_trans p2 p3)) (by omega)⟩
end Go.Proofs.YtlofopnjjeeehaaDoor.Bn
namespace Go.Proofs.YtlofopnjjeeehaaDoor.Bn
open Go.RowKit
set_option maxRecDepth 100000 in
set_option maxHeartbeats 4000000 in
theorem Water_any (b : Bnch) (x : Ctch) (oa : Option Addr) (cap : Nat) (w : World) (hn : b.n ≤ 1000000) (hcap : b.n ≤ cap) (hT : MarksAt w oa b.n b.t) :
    Calls Tryd.prog 10 #[b.val oa cap, x.val] w fun e w' => e = .returned (.tuple #[(b.waterR x).1.val, .int .i64 (b.waterR x).2]) ∧ Below w.heap.size w w' := by
  have HT := Lib.hid hT
  clear hT
  go_enter Tryd.func10, Tryd.ntmps10
  go_wp2_with fail
  have HB := Lib.hid ((two_bench 37 b oa cap x w).old (.cells #[.int .i64 0, .int .i64 0] 35))
  have HC := Lib.hid ((two_catch 37 b oa cap x w).old (.cells #[.int .i64 0, .int .i64 0] 35))
  have HS := Lib.hid (Box.new (g := w.heap.size + 1 + 1) #[.int .i64 0, .int .i64 0] 35 (two 37 b oa cap x w) (by simp))
  have hbw : Below w.heap.size w ((two 37 b oa cap x w).alloc (.cells #[.int .i64 0, .int .i64 0] 35)) := (two_below 37 b oa cap x w).alloc (by simp; omega) _
  refine (isBench_any b oa cap _ hn (HT.out.mono hbw)).mono ?_
  rintro e w1 ⟨rfl, hb1⟩
  have HB1 := Lib.hid (HB.out.below hb1)
  have HC1 := Lib.hid (HC.out.below hb1)
  have HS1 := Lib.hid (HS.out.below hb1)
  have hbw1 := hbw.trans (hb1.mono hbw.size)
  clear hb1 hbw HB HC HS
  obtain ⟨b0, b1, b2, b3, b4, b5, b6, b7⟩ := BB.cells (b := b) HB1.out
  have s0 := HS1.out.cell 0 rfl
  have s1 := HS1.out.cell 1 rfl
  have s2 := HS1.out.frozen 0
  have s3 := HS1.out.frozen 1
  by_cases hv : b.valid = true
  case neg =>
    replace hv : b.valid = false := by simpa using hv
    rw [hv]
    go_wp2_with fail
    have pq := put2 s0 s1 (.int .i64 0) (.int .i64 0)
    refine bodyPost_ret (v := .tuple #[.agg #[.int .i64 0, .int .i64 0], .int .i64 1]) (by simp [results, Tryd.results10, go_sem, pq.1, pq.2]) rfl ⟨by rw [Bnch.waterR, hv]; rfl, (by repeat' (first | exact Below.refl _ _ | assumption | apply below_drewN | apply Below.drew | (refine Below.alloc ?_ ?_ _) | (refine Below.setCell ?_ ?_ _) | (simp; done) | (simp; omega) | omega))⟩
  rw [hv]
  have HV := Lib.hid hv
  have hn1 := (valid_all hv).2.1
  clear hv
  have hm1 : ∀ w : World, (method 247 104 (b.val oa cap) "meterworks/bench.right").run Tryd.prog w = .ok (60, b.val oa cap) w := fun _ => by kernel_rfl
  have hm2 : ∀ w : World, (method 247 104 (b.val oa cap) "meterworks/bench.water").run Tryd.prog w = .ok (61, b.val oa cap) w := fun _ => by kernel_rfl
  have hm3 : ∀ w : World, (method 247 105 (b.val oa cap) "meterworks/bench.right").run Tryd.prog w = .ok (72, b.val oa cap) w := fun _ => by kernel_rfl
  have hm4 : ∀ w : World, (method 247 105 (b.val oa cap) "meterworks/bench.water").run Tryd.prog w = .ok (73, b.val oa cap) w := fun _ => by kernel_rfl
  by_cases hw : b.weighs = true
  · have HW := Lib.hid hw
    clear hw
    go_wp2_with fail
    go_cut [6] from 14 to 19 (fun s6 wx => s6 = .iface 104 (b.val oa cap) ∧ Below w1.heap.size w1 wx)
    case first =>
      go_region_held3 (fun w' => w'.cell? ⟨w.heap.size, 0, none⟩ = some (.bool b.weighs) ∧ w'.cell? ⟨w.heap.size, 1, none⟩ = some (.slice oa b.n cap) ∧ w'.cell? ⟨w.heap.size, 2, none⟩ = some (.int .i64 b.off) ∧ w'.cell? ⟨w.heap.size, 3, none⟩ = some (.int .i64 b.buoy.lo) ∧ w'.cell? ⟨w.heap.size, 4, none⟩ = some (.int .i64 b.buoy.hi) ∧ w'.cell? ⟨w.heap.size, 5, none⟩ = some (.int .i64 b.air.lo) ∧ w'.cell? ⟨w.heap.size, 6, none⟩ = some (.int .i64 b.air.hi)) ((refine ⟨(Below.cell (p := ⟨w.heap.size, 0, none⟩) (w := w1) ?_ b7).trans b0, (Below.cell (p := ⟨w.heap.size, 1, none⟩) (w := w1) ?_ b7).trans b1, (Below.cell (p := ⟨w.heap.size, 2, none⟩) (w := w1) ?_ b7).trans b2, (Below.cell (p := ⟨w.heap.size, 3, none⟩) (w := w1) ?_ b7).trans b3, (Below.cell (p := ⟨w.heap.size, 4, none⟩) (w := w1) ?_ b7).trans b4, (Below.cell (p := ⟨w.heap.size, 5, none⟩) (w := w1) ?_ b7).trans b5, (Below.cell (p := ⟨w.heap.size, 6, none⟩) (w := w1) ?_ b7).trans b6⟩ <;> (repeat' (first | assumption | exact Below.refl _ _ | apply Below.drew)))) (first | ((go_at_call 22; refine (methods_any _).mono ?_; rintro e w9 ⟨rfl, hM, hb9⟩; have hbp : Below w1.heap.size w1 w9 := Below.trans (by repeat' (first | assumption | exact Below.refl _ _ | apply Below.drew)) (hb9.mono (by first | omega | (simp; done) | (simp; omega))); have hsp := hbp.size; have hl : (Instr.lookup 79 (.map (some w1.heap.size)) (.bool b.weighs) false).run Tryd.prog w9 = .ok (.func (.func 36) #[] #[]) w9 := (by rw [HW.out]; exact run_lookup_bool (P := Tryd.prog) (t := 79) (j := 0) Tryd.underlying79 Tryd.underlying4 (k := true) hM rfl))) | ((go_at_call 36; refine (scaleOf_any b oa cap _).mono ?_; rintro e w9 ⟨rfl, hb9⟩; have hbp : Below w1.heap.size w1 w9 := Below.trans (by repeat' (first | assumption | exact Below.refl _ _ | apply Below.drew)) (hb9.mono (by first | omega | (simp; done) | (simp; omega))); have hsp := hbp.size)))
      all_goals
        go_wp2_with fail
        go_meet
        exact ⟨rfl, hbp⟩
    case rest =>
      obtain ⟨rfl, hbx⟩ := hcut
      have HB2 := Lib.hid (HB1.out.below hbx)
      have HC2 := Lib.hid (HC1.out.below hbx)
      have HS2 := Lib.hid (HS1.out.below hbx)
      have hbw2 := hbw1.trans (hbx.mono hbw1.size)
      clear HB1 HC1 HS1 hbw1 hbx b0 b1 b2 b3 b4 b5 b6 b7 s0 s1 s2 s3
      obtain ⟨y0, y1, y2, y3, y4, y5, y6⟩ := CB.cells (x := x) HC2.out
      go_wp2_with fail
      refine (scaleRight_any b x oa cap _ (by omega) hn (HT.out.mono hbw2)).mono ?_
      rintro e w3 ⟨rfl, hb3⟩
      have HB3 := Lib.hid (HB2.out.below hb3)
      have HC3 := Lib.hid (HC2.out.below hb3)
      have HS3 := Lib.hid (HS2.out.below hb3)
      have hbw3 := hbw2.trans (hb3.mono hbw2.size)
      clear hb3 HB2 HC2 HS2 hbw2 y0 y1 y2 y3 y4 y5 y6
      have s0 := HS3.out.cell 0 rfl
      have s1 := HS3.out.cell 1 rfl
      have s2 := HS3.out.frozen 0
      have s3 := HS3.out.frozen 1
      by_cases hr : b.scaleOk x = true
      case neg =>
        have hr2 : b.rightB x = false := by rw [Bnch.rightB, HW.out]; simpa using hr
        have HR := Lib.hid hr2
        replace hr : b.scaleOk x = false := by simpa using hr
        rw [hr]
        clear hr2
        go_wp2_with fail
        have pq := put2 s0 s1 (.int .i64 0) (.int .i64 0)
        refine bodyPost_ret (v := .tuple #[.agg #[.int .i64 0, .int .i64 0], .int .i64 2]) (by simp [results, Tryd.results10, go_sem, pq.1, pq.2]) rfl ⟨by rw [Bnch.waterR, HV.out, HR.out]; rfl, (by repeat' (first | exact Below.refl _ _ | assumption | apply below_drewN | apply Below.drew | (refine Below.alloc ?_ ?_ _) | (refine Below.setCell ?_ ?_ _) | (simp; done) | (simp; omega) | omega))⟩
      rw [hr]
      have hr2 : b.rightB x = true := by rw [Bnch.rightB, HW.out]; exact hr
      have HR := Lib.hid hr2
      have HR1 := Lib.hid hr
      clear hr hr2
      obtain ⟨y0, y1, y2, y3, y4, y5, y6⟩ := CB.cells (x := x) HC3.out
      have hrb2 : ¬ w.heap.size + 1 = w3.heap.size := by omega
      go_wp2_with fail
      refine (scaleWater_any b x oa cap _ HV.out HR1.out hcap (HT.out.mono hbw3)).mono ?_
      rintro e w4 ⟨rfl, hb4⟩
      have hwf : b.waterF x = b.scaleW x := by rw [Bnch.waterF, HW.out]; rfl
      rw [← hwf]
      have HB4 := Lib.hid (HB3.out.below hb4)
      have HS4 := Lib.hid (HS3.out.below hb4)
      have hbw4 := hbw3.trans (hb4.mono hbw3.size)
      clear hb4 HB3 HC3 HS3 hbw3 y0 y1 y2 y3 y4 y5 y6 s0 s1 s2 s3 hwf hrb2
      have HO := Lib.hid (fun hi => water_ok (b := b) (x := x) HV.out HR.out hi)
      have hno := waterR_no (b := b) (x := x) HV.out HR.out
      have hyes := waterR_yes (b := b) (x := x) HV.out HR.out
      obtain ⟨⟨f1, f2, is9⟩, hF⟩ : ∃ p, p = b.waterF x := ⟨_, rfl⟩
      rw [← hF] at HO hno hyes ⊢
      dsimp only at HO hno hyes ⊢
      have HNO := Lib.hid hno
      have HYES := Lib.hid hyes
      clear hF hno hyes
      have hai := Lib.hid (valid_all HV.out).2.2.2.2.2
      go_upto_region 7 with fail
      have HB5 := Lib.hid ((HB4.out.old (.cells #[.int .i64 f1.top, .int .i64 f1.under] 83)).old (.cells #[.int .i64 f2.top, .int .i64 f2.under] 83))
      have HS5 := Lib.hid ((HS4.out.old (.cells #[.int .i64 f1.top, .int .i64 f1.under] 83)).old (.cells #[.int .i64 f2.top, .int .i64 f2.under] 83))
      have T7 := (Box.new #[.int .i64 f1.top, .int .i64 f1.under] 83 w4 rfl).old (.cells #[.int .i64 f2.top, .int .i64 f2.under] 83)
      have T8 : Box (w4.heap.size + 1) #[.int .i64 f2.top, .int .i64 f2.under] 83 ((w4.alloc (.cells #[.int .i64 f1.top, .int .i64 f1.under] 83)).alloc (.cells #[.int .i64 f2.top, .int .i64 f2.under] 83)) := Box.new _ 83 _ (by simp)
      have hbw5 : Below w.heap.size w ((w4.alloc (.cells #[.int .i64 f1.top, .int .i64 f1.under] 83)).alloc (.cells #[.int .i64 f2.top, .int .i64 f2.under] 83)) := (hbw4.alloc hbw4.size _).alloc (by have := hbw4.size; simp; omega) _
      have q1 : ¬ w.heap.size + 1 + 1 = w4.heap.size := by have := HS4.out.lt; omega
      have q2 : ¬ w.heap.size + 1 + 1 = w4.heap.size + 1 := by have := HS4.out.lt; omega
      obtain ⟨g, hg⟩ : ∃ g, g = w4.heap.size := ⟨_, rfl⟩
      obtain ⟨w5, hw5⟩ : ∃ X, X = (w4.alloc (.cells #[.int .i64 f1.top, .int .i64 f1.under] 83)).alloc (.cells #[.int .i64 f2.top, .int .i64 f2.under] 83) := ⟨_, rfl⟩
      rw [← hw5] at HB5 HS5 T7 T8 hbw5 ⊢
      rw [← hg] at T7 T8 q1 q2 ⊢
      clear hw5 hg HB4 HS4 hbw4
      obtain ⟨b0, b1, b2, b3, b4, b5, b6, b7⟩ := BB.cells (b := b) HB5.out
      have s0 := HS5.out.cell 0 rfl
      have s1 := HS5.out.cell 1 rfl
      have s2 := HS5.out.frozen 0
      have s3 := HS5.out.frozen 1
      have ls := HS5.out.lt
      have t0 := T7.cell 0 rfl
      have t1 := T7.cell 1 rfl
      have t2 := T8.cell 0 rfl
      have t3 := T8.cell 1 rfl
      have l7 := T7.lt
      have l8 := T8.lt
      by_cases hs : (is9 && decide (f1.under ≤ f1.top)) = true
      case neg =>
        have RR := Lib.hid (HNO.out hs)
        have hs2 : is9 = false ∨ (is9 = true ∧ decide (f1.top < f1.under) = true) := by
          cases is9
          · exact .inl rfl
          · refine .inr ⟨rfl, ?_⟩
            simp at hs
            simpa using hs
        clear hs
        rcases hs2 with rfl | ⟨rfl, hlt⟩
        all_goals
          go_wp2_with fail
          have pq := put2 s0 s1 (.int .i64 0) (.int .i64 0)
          refine bodyPost_ret (v := .tuple #[.agg #[.int .i64 0, .int .i64 0], .int .i64 10]) (by simp [results, Tryd.results10, go_sem, pq.1, pq.2]) rfl ⟨by rw [RR.out], (by repeat' (first | exact Below.refl _ _ | assumption | apply below_drewN | apply Below.drew | (refine Below.alloc ?_ ?_ _) | (refine Below.setCell ?_ ?_ _) | (simp; done) | (simp; omega) | omega))⟩
      have RR := Lib.hid (HYES.out hs)
      simp only [Bool.and_eq_true, decide_eq_true_eq] at hs
      obtain ⟨rfl, hle⟩ := hs
      have hlt : decide (f1.top < f1.under) = false := by simp; omega
      obtain ⟨O1, O2⟩ := HO.out rfl
      have d1 := O1.down
      have d2 := O2.up
      have d3 := hai.out
      have e1 : rnd 0 f1.top f1.under = f1.down := rfl
      have e2 : rnd 1 f2.top f2.under = f2.up := rfl
      have hw1 : IntKind.i64.wrap (rnd 0 f1.top f1.under + b.air.lo) = rnd 0 f1.top f1.under + b.air.lo := IntWalk.i64_in _ (by rw [e1]; omega)
      have hw2 : IntKind.i64.wrap (rnd 1 f2.top f2.under + b.air.hi) = rnd 1 f2.top f2.under + b.air.hi := IntWalk.i64_in _ (by rw [e2]; omega)
      clear e1 e2 d1 d2 d3
      go_wp2_with fail
      go_region_held3 (fun w' => w'.cell? ⟨g, 0, none⟩ = some (.int .i64 f1.top) ∧ w'.cell? ⟨g, 1, none⟩ = some (.int .i64 f1.under) ∧ w'.cell? ⟨g + 1, 0, none⟩ = some (.int .i64 f2.top) ∧ w'.cell? ⟨g + 1, 1, none⟩ = some (.int .i64 f2.under) ∧ w'.cell? ⟨w.heap.size, 5, none⟩ = some (.int .i64 b.air.lo) ∧ w'.cell? ⟨w.heap.size, 6, none⟩ = some (.int .i64 b.air.hi)) ((refine ⟨Two.cell (p := w.heap.size + 1 + 1) (q := w.heap.size + 1 + 1) (w := w5) ?_ t0 l7 (by omega) (by omega), Two.cell (p := w.heap.size + 1 + 1) (q := w.heap.size + 1 + 1) (w := w5) ?_ t1 l7 (by omega) (by omega), Two.cell (p := w.heap.size + 1 + 1) (q := w.heap.size + 1 + 1) (w := w5) ?_ t2 l8 (by omega) (by omega), Two.cell (p := w.heap.size + 1 + 1) (q := w.heap.size + 1 + 1) (w := w5) ?_ t3 l8 (by omega) (by omega), Two.cell (p := w.heap.size + 1 + 1) (q := w.heap.size + 1 + 1) (w := w5) ?_ b5 b7 (by omega) (by omega), Two.cell (p := w.heap.size + 1 + 1) (q := w.heap.size + 1 + 1) (w := w5) ?_ b6 b7 (by omega) (by omega)⟩ <;> (repeat' (first | assumption | exact Two.refl _ _ _ | apply Two.drew | apply Two.setP)))) (first | ((go_at_call 23; refine (round_tu _ _ _ _ (by simp) (by first | exact O1.u0 | exact O2.u0) (by first | exact O1.t2 | exact O2.t2)).mono ?_; rintro e w9 ⟨rfl, hb9⟩; have hbp : Below w5.heap.size w5 w9 := Below.trans (by repeat' (first | assumption | exact Below.refl _ _ | apply Below.drew)) (hb9.mono (by first | omega | (simp; done) | (simp; omega))); have hsp := hbp.size; have htp : Two (w.heap.size + 1 + 1) (w.heap.size + 1 + 1) w5 w9 := Two.below (Two.refl _ _ _) hbp; have y0 := (hbp.cell (p := ⟨w.heap.size + 1 + 1, 0, none⟩) ls).trans s0; have y1 := (hbp.cell (p := ⟨w.heap.size + 1 + 1, 1, none⟩) ls).trans s1; have z0 := (hbp.frozen (p := ⟨w.heap.size + 1 + 1, 0, none⟩) ls).trans s2; have z1 := (hbp.frozen (p := ⟨w.heap.size + 1 + 1, 1, none⟩) ls).trans s3)))
      all_goals
        go_wp2_with fail
        have pq := put2 y0 y1 (.int .i64 (rnd 0 f1.top f1.under + b.air.lo)) (.int .i64 (rnd 1 f2.top f2.under + b.air.hi))
        refine bodyPost_ret (v := .tuple #[.agg #[.int .i64 (rnd 0 f1.top f1.under + b.air.lo), .int .i64 (rnd 1 f2.top f2.under + b.air.hi)], .int .i64 0]) (by simp [results, Tryd.results10, go_sem, pq.1, pq.2]) rfl ⟨by rw [RR.out]; rfl, ((hbw5.trans (hbp.mono hbw5.size)).setCell (by dsimp only; omega) _).setCell (by dsimp only; omega) _⟩
  · replace hw : b.weighs = false := by simpa using hw
    have HW := Lib.hid hw
    clear hw
    go_wp2_with fail
    go_cut [6] from 14 to 19 (fun s6 wx => s6 = .iface 105 (b.val oa cap) ∧ Below w1.heap.size w1 wx)
    case first =>
      go_region_held3 (fun w' => w'.cell? ⟨w.heap.size, 0, none⟩ = some (.bool b.weighs) ∧ w'.cell? ⟨w.heap.size, 1, none⟩ = some (.slice oa b.n cap) ∧ w'.cell? ⟨w.heap.size, 2, none⟩ = some (.int .i64 b.off) ∧ w'.cell? ⟨w.heap.size, 3, none⟩ = some (.int .i64 b.buoy.lo) ∧ w'.cell? ⟨w.heap.size, 4, none⟩ = some (.int .i64 b.buoy.hi) ∧ w'.cell? ⟨w.heap.size, 5, none⟩ = some (.int .i64 b.air.lo) ∧ w'.cell? ⟨w.heap.size, 6, none⟩ = some (.int .i64 b.air.hi)) ((refine ⟨(Below.cell (p := ⟨w.heap.size, 0, none⟩) (w := w1) ?_ b7).trans b0, (Below.cell (p := ⟨w.heap.size, 1, none⟩) (w := w1) ?_ b7).trans b1, (Below.cell (p := ⟨w.heap.size, 2, none⟩) (w := w1) ?_ b7).trans b2, (Below.cell (p := ⟨w.heap.size, 3, none⟩) (w := w1) ?_ b7).trans b3, (Below.cell (p := ⟨w.heap.size, 4, none⟩) (w := w1) ?_ b7).trans b4, (Below.cell (p := ⟨w.heap.size, 5, none⟩) (w := w1) ?_ b7).trans b5, (Below.cell (p := ⟨w.heap.size, 6, none⟩) (w := w1) ?_ b7).trans b6⟩ <;> (repeat' (first | assumption | exact Below.refl _ _ | apply Below.drew)))) (first | ((go_at_call 22; refine (methods_any _).mono ?_; rintro e w9 ⟨rfl, hM, hb9⟩; have hbp : Below w1.heap.size w1 w9 := Below.trans (by repeat' (first | assumption | exact Below.refl _ _ | apply Below.drew)) (hb9.mono (by first | omega | (simp; done) | (simp; omega))); have hsp := hbp.size; have hl : (Instr.lookup 79 (.map (some w1.heap.size)) (.bool b.weighs) false).run Tryd.prog w9 = .ok (.func (.func 37) #[] #[]) w9 := (by rw [HW.out]; exact run_lookup_bool (P := Tryd.prog) (t := 79) (j := 1) Tryd.underlying79 Tryd.underlying4 (k := false) hM rfl))) | ((go_at_call 37; refine (tankOf_any b oa cap _).mono ?_; rintro e w9 ⟨rfl, hb9⟩; have hbp : Below w1.heap.size w1 w9 := Below.trans (by repeat' (first | assumption | exact Below.refl _ _ | apply Below.drew)) (hb9.mono (by first | omega | (simp; done) | (simp; omega))); have hsp := hbp.size)))
      all_goals
        go_wp2_with fail
        go_meet
        exact ⟨rfl, hbp⟩
    case rest =>
      obtain ⟨rfl, hbx⟩ := hcut
      have HB2 := Lib.hid (HB1.out.below hbx)
      have HC2 := Lib.hid (HC1.out.below hbx)
      have HS2 := Lib.hid (HS1.out.below hbx)
      have hbw2 := hbw1.trans (hbx.mono hbw1.size)
      clear HB1 HC1 HS1 hbw1 hbx b0 b1 b2 b3 b4 b5 b6 b7 s0 s1 s2 s3
      obtain ⟨y0, y1, y2, y3, y4, y5, y6⟩ := CB.cells (x := x) HC2.out
      go_wp2_with fail
      refine (tankRight_any b x oa cap _ (by omega) hn (HT.out.mono hbw2)).mono ?_
      rintro e w3 ⟨rfl, hb3⟩
      have HB3 := Lib.hid (HB2.out.below hb3)
      have HC3 := Lib.hid (HC2.out.below hb3)
      have HS3 := Lib.hid (HS2.out.below hb3)
      have hbw3 := hbw2.trans (hb3.mono hbw2.size)
      clear hb3 HB2 HC2 HS2 hbw2 y0 y1 y2 y3 y4 y5 y6
      have s0 := HS3.out.cell 0 rfl
      have s1 := HS3.out.cell 1 rfl
      have s2 := HS3.out.frozen 0
      have s3 := HS3.out.frozen 1
      by_cases hr : b.tankOk x = true
      case neg =>
        have hr2 : b.rightB x = false := by rw [Bnch.rightB, HW.out]; simpa using hr
        have HR := Lib.hid hr2
        replace hr : b.tankOk x = false := by simpa using hr
        rw [hr]
        clear hr2
        go_wp2_with fail
        have pq := put2 s0 s1 (.int .i64 0) (.int .i64 0)
        refine bodyPost_ret (v := .tuple #[.agg #[.int .i64 0, .int .i64 0], .int .i64 2]) (by simp [results, Tryd.results10, go_sem, pq.1, pq.2]) rfl ⟨by rw [Bnch.waterR, HV.out, HR.out]; rfl, (by repeat' (first | exact Below.refl _ _ | assumption | apply below_drewN | apply Below.drew | (refine Below.alloc ?_ ?_ _) | (refine Below.setCell ?_ ?_ _) | (simp; done) | (simp; omega) | omega))⟩
      rw [hr]
      have hr2 : b.rightB x = true := by rw [Bnch.rightB, HW.out]; exact hr
      have HR := Lib.hid hr2
      have HR1 := Lib.hid hr
      clear hr hr2
      obtain ⟨y0, y1, y2, y3, y4, y5, y6⟩ := CB.cells (x := x) HC3.out
      have hrb2 : ¬ w.heap.size + 1 = w3.heap.size := by omega
      go_wp2_with fail
      refine (tankWater_any b x oa cap _ HV.out HR1.out hcap (HT.out.mono hbw3)).mono ?_
      rintro e w4 ⟨rfl, hb4⟩
      have hwf : b.waterF x = b.tankW x := by rw [Bnch.waterF, HW.out]; rfl
      rw [← hwf]
      have HB4 := Lib.hid (HB3.out.below hb4)
      have HS4 := Lib.hid (HS3.out.below hb4)
      have hbw4 := hbw3.trans (hb4.mono hbw3.size)
      clear hb4 HB3 HC3 HS3 hbw3 y0 y1 y2 y3 y4 y5 y6 s0 s1 s2 s3 hwf hrb2
      have HO := Lib.hid (fun hi => water_ok (b := b) (x := x) HV.out HR.out hi)
      have hno := waterR_no (b := b) (x := x) HV.out HR.out
      have hyes := waterR_yes (b := b) (x := x) HV.out HR.out
      obtain ⟨⟨f1, f2, is9⟩, hF⟩ : ∃ p, p = b.waterF x := ⟨_, rfl⟩
      rw [← hF] at HO hno hyes ⊢
      dsimp only at HO hno hyes ⊢
      have HNO := Lib.hid hno
      have HYES := Lib.hid hyes
      clear hF hno hyes
      have hai := Lib.hid (valid_all HV.out).2.2.2.2.2
      go_upto_region 7 with fail
      have HB5 := Lib.hid ((HB4.out.old (.cells #[.int .i64 f1.top, .int .i64 f1.under] 83)).old (.cells #[.int .i64 f2.top, .int .i64 f2.under] 83))
      have HS5 := Lib.hid ((HS4.out.old (.cells #[.int .i64 f1.top, .int .i64 f1.under] 83)).old (.cells #[.int .i64 f2.top, .int .i64 f2.under] 83))
      have T7 := (Box.new #[.int .i64 f1.top, .int .i64 f1.under] 83 w4 rfl).old (.cells #[.int .i64 f2.top, .int .i64 f2.under] 83)
      have T8 : Box (w4.heap.size + 1) #[.int .i64 f2.top, .int .i64 f2.under] 83 ((w4.alloc (.cells #[.int .i64 f1.top, .int .i64 f1.under] 83)).alloc (.cells #[.int .i64 f2.top, .int .i64 f2.under] 83)) := Box.new _ 83 _ (by simp)
      have hbw5 : Below w.heap.size w ((w4.alloc (.cells #[.int .i64 f1.top, .int .i64 f1.under] 83)).alloc (.cells #[.int .i64 f2.top, .int .i64 f2.under] 83)) := (hbw4.alloc hbw4.size _).alloc (by have := hbw4.size; simp; omega) _
      have q1 : ¬ w.heap.size + 1 + 1 = w4.heap.size := by have := HS4.out.lt; omega
      have q2 : ¬ w.heap.size + 1 + 1 = w4.heap.size + 1 := by have := HS4.out.lt; omega
      obtain ⟨g, hg⟩ : ∃ g, g = w4.heap.size := ⟨_, rfl⟩
      obtain ⟨w5, hw5⟩ : ∃ X, X = (w4.alloc (.cells #[.int .i64 f1.top, .int .i64 f1.under] 83)).alloc (.cells #[.int .i64 f2.top, .int .i64 f2.under] 83) := ⟨_, rfl⟩
      rw [← hw5] at HB5 HS5 T7 T8 hbw5 ⊢
      rw [← hg] at T7 T8 q1 q2 ⊢
      clear hw5 hg HB4 HS4 hbw4
      obtain ⟨b0, b1, b2, b3, b4, b5, b6, b7⟩ := BB.cells (b := b) HB5.out
      have s0 := HS5.out.cell 0 rfl
      have s1 := HS5.out.cell 1 rfl
      have s2 := HS5.out.frozen 0
      have s3 := HS5.out.frozen 1
      have ls := HS5.out.lt
      have t0 := T7.cell 0 rfl
      have t1 := T7.cell 1 rfl
      have t2 := T8.cell 0 rfl
      have t3 := T8.cell 1 rfl
      have l7 := T7.lt
      have l8 := T8.lt
      by_cases hs : (is9 && decide (f1.under ≤ f1.top)) = true
      case neg =>
        have RR := Lib.hid (HNO.out hs)
        have hs2 : is9 = false ∨ (is9 = true ∧ decide (f1.top < f1.under) = true) := by
          cases is9
          · exact .inl rfl
          · refine .inr ⟨rfl, ?_⟩
            simp at hs
            simpa using hs
        clear hs
        rcases hs2 with rfl | ⟨rfl, hlt⟩
        all_goals
          go_wp2_with fail
          have pq := put2 s0 s1 (.int .i64 0) (.int .i64 0)
          refine bodyPost_ret (v := .tuple #[.agg #[.int .i64 0, .int .i64 0], .int .i64 10]) (by simp [results, Tryd.results10, go_sem, pq.1, pq.2]) rfl ⟨by rw [RR.out], (by repeat' (first | exact Below.refl _ _ | assumption | apply below_drewN | apply Below.drew | (refine Below.alloc ?_ ?_ _) | (refine Below.setCell ?_ ?_ _) | (simp; done) | (simp; omega) | omega))⟩
      have RR := Lib.hid (HYES.out hs)
      simp only [Bool.and_eq_true, decide_eq_true_eq] at hs
      obtain ⟨rfl, hle⟩ := hs
      have hlt : decide (f1.top < f1.under) = false := by simp; omega
      obtain ⟨O1, O2⟩ := HO.out rfl
      have d1 := O1.down
      have d2 := O2.up
      have d3 := hai.out
      have e1 : rnd 0 f1.top f1.under = f1.down := rfl
      have e2 : rnd 1 f2.top f2.under = f2.up := rfl
      have hw1 : IntKind.i64.wrap (rnd 0 f1.top f1.under + b.air.lo) = rnd 0 f1.top f1.under + b.air.lo := IntWalk.i64_in _ (by rw [e1]; omega)
      have hw2 : IntKind.i64.wrap (rnd 1 f2.top f2.under + b.air.hi) = rnd 1 f2.top f2.under + b.air.hi := IntWalk.i64_in _ (by rw [e2]; omega)
      clear e1 e2 d1 d2 d3
      go_wp2_with fail
      go_region_held3 (fun w' => w'.cell? ⟨g, 0, none⟩ = some (.int .i64 f1.top) ∧ w'.cell? ⟨g, 1, none⟩ = some (.int .i64 f1.under) ∧ w'.cell? ⟨g + 1, 0, none⟩ = some (.int .i64 f2.top) ∧ w'.cell? ⟨g + 1, 1, none⟩ = some (.int .i64 f2.under) ∧ w'.cell? ⟨w.heap.size, 5, none⟩ = some (.int .i64 b.air.lo) ∧ w'.cell? ⟨w.heap.size, 6, none⟩ = some (.int .i64 b.air.hi)) ((refine ⟨Two.cell (p := w.heap.size + 1 + 1) (q := w.heap.size + 1 + 1) (w := w5) ?_ t0 l7 (by omega) (by omega), Two.cell (p := w.heap.size + 1 + 1) (q := w.heap.size + 1 + 1) (w := w5) ?_ t1 l7 (by omega) (by omega), Two.cell (p := w.heap.size + 1 + 1) (q := w.heap.size + 1 + 1) (w := w5) ?_ t2 l8 (by omega) (by omega), Two.cell (p := w.heap.size + 1 + 1) (q := w.heap.size + 1 + 1) (w := w5) ?_ t3 l8 (by omega) (by omega), Two.cell (p := w.heap.size + 1 + 1) (q := w.heap.size + 1 + 1) (w := w5) ?_ b5 b7 (by omega) (by omega), Two.cell (p := w.heap.size + 1 + 1) (q := w.heap.size + 1 + 1) (w := w5) ?_ b6 b7 (by omega) (by omega)⟩ <;> (repeat' (first | assumption | exact Two.refl _ _ _ | apply Two.drew | apply Two.setP)))) (first | ((go_at_call 23; refine (round_tu _ _ _ _ (by simp) (by first | exact O1.u0 | exact O2.u0) (by first | exact O1.t2 | exact O2.t2)).mono ?_; rintro e w9 ⟨rfl, hb9⟩; have hbp : Below w5.heap.size w5 w9 := Below.trans (by repeat' (first | assumption | exact Below.refl _ _ | apply Below.drew)) (hb9.mono (by first | omega | (simp; done) | (simp; omega))); have hsp := hbp.size; have htp : Two (w.heap.size + 1 + 1) (w.heap.size + 1 + 1) w5 w9 := Two.below (Two.refl _ _ _) hbp; have y0 := (hbp.cell (p := ⟨w.heap.size + 1 + 1, 0, none⟩) ls).trans s0; have y1 := (hbp.cell (p := ⟨w.heap.size + 1 + 1, 1, none⟩) ls).trans s1; have z0 := (hbp.frozen (p := ⟨w.heap.size + 1 + 1, 0, none⟩) ls).trans s2; have z1 := (hbp.frozen (p := ⟨w.heap.size + 1 + 1, 1, none⟩) ls).trans s3)))
      all_goals
        go_wp2_with fail
        have pq := put2 y0 y1 (.int .i64 (rnd 0 f1.top f1.under + b.air.lo)) (.int .i64 (rnd 1 f2.top f2.under + b.air.hi))
        refine bodyPost_ret (v := .tuple #[.agg #[.int .i64 (rnd 0 f1.top f1.under + b.air.lo), .int .i64 (rnd 1 f2.top f2.under + b.air.hi)], .int .i64 0]) (by simp [results, Tryd.results10, go_sem, pq.1, pq.2]) rfl ⟨by rw [RR.out]; rfl, ((hbw5.trans (hbp.mono hbw5.size)).setCell (by dsimp only; omega) _).setCell (by dsimp only; omega) _⟩
end Go.Proofs.YtlofopnjjeeehaaDoor.Bn
