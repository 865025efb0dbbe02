/- Whether a meter passes, as the document says it. -/
import Derived.Test.YthoefcpeagclbaaW33
import Derived.Test.YthoefcpeagclbaaGarb
namespace Go.Proofs.Ythoefcpeagclbaa
open Go.RowKit
theorem lessF_any (a b c d : Int) (w : World) (h1 : -4000000000000000000 ≤ a * d ∧ a * d ≤ 4000000000000000000) (h2 : -4000000000000000000 ≤ c * b ∧ c * b ≤ 4000000000000000000) :
    Calls Try.prog 30 #[.agg #[.int .i64 a, .int .i64 b], .agg #[.int .i64 c, .int .i64 d]] w fun e w' => e = .returned (.bool (Frac.lt ⟨a, b⟩ ⟨c, d⟩)) ∧ Below w.heap.size w w' := less_any ⟨a, b⟩ ⟨c, d⟩ w h1 h2
set_option maxRecDepth 100000 in
set_option maxHeartbeats 8000000 in
theorem passes_any (v s : Spn) (most : Int) (w : World) (h0 : 1 ≤ v.lo) (h1 : v.lo ≤ v.hi) (hv : v.hi ≤ 100000000000000) (h2 : 0 ≤ s.lo ∧ s.lo ≤ 1073741824) (h3 : 0 ≤ s.hi ∧ s.hi ≤ 1073741824) (h4 : s.lo ≤ s.hi) (hm : 0 ≤ most ∧ most ≤ 10000) :
    Calls Try.prog 49 #[s.val, v.val, .int .i64 most] w fun e w' => e = .returned (.int .i64 (passD v s most)) ∧ Below w.heap.size w w' := by
  have M3 := mulb (a := most) (b := v.hi) (x := 10000) (y := 100000000000000) (by omega) (by omega) (by omega) (by omega)
  have M4 := mulb (a := most) (b := v.lo) (x := 10000) (y := 100000000000000) (by omega) (by omega) (by omega) (by omega)
  have M5 : -4000000000000000000 ≤ -most * v.lo ∧ -most * v.lo ≤ 4000000000000000000 := by rw [Int.neg_mul]; omega
  have M6 : -4000000000000000000 ≤ -most * v.hi ∧ -most * v.hi ≤ 4000000000000000000 := by rw [Int.neg_mul]; omega
  have W1 : IntKind.i64.wrap (-most) = -most := IntWalk.i64_in _ (by omega)
  have HC1 := Lib.hid (fun w' => less_any (endL v s) ⟨-most, 1⟩ w' (by simp only [endL]; omega) (by simp only [endL]; omega))
  have HC2 := Lib.hid (fun w' => less_any ⟨most, 1⟩ (endH v s) w' (by simp only [endH]; omega) (by simp only [endH]; omega))
  have HC3 := Lib.hid (fun w' => less_any (endH v s) ⟨-most, 1⟩ w' (by simp only [endH]; omega) (by simp only [endH]; omega))
  have HC4 := Lib.hid (fun w' => less_any ⟨most, 1⟩ (endL v s) w' (by simp only [endL]; omega) (by simp only [endL]; omega))
  have HD2 := Lib.hid (passD_two (v := v) (s := s) (most := most))
  have HD0 := Lib.hid (passD_zero (v := v) (s := s) (most := most))
  have HDL := Lib.hid (passD_loop (v := v) (s := s) (most := most))
  change Hid (∀ w' : World, Calls Try.prog 30 _ w' fun e w9 => e = .returned (.bool ((endL v s).lt ⟨-most, 1⟩)) ∧ Below w'.heap.size w' w9) at HC1
  change Hid (∀ w' : World, Calls Try.prog 30 _ w' fun e w9 => e = .returned (.bool (Frac.lt ⟨most, 1⟩ (endH v s))) ∧ Below w'.heap.size w' w9) at HC2
  change Hid (∀ w' : World, Calls Try.prog 30 _ w' fun e w9 => e = .returned (.bool ((endH v s).lt ⟨-most, 1⟩)) ∧ Below w'.heap.size w' w9) at HC3
  change Hid (∀ w' : World, Calls Try.prog 30 _ w' fun e w9 => e = .returned (.bool (Frac.lt ⟨most, 1⟩ (endL v s))) ∧ Below w'.heap.size w' w9) at HC4
  go_enter Try.func49, Try.ntmps49
  go_wp2_with fail
  obtain ⟨W, hW⟩ : ∃ X, X = (w.alloc (.cells #[.int .i64 s.lo, .int .i64 s.hi] 24)).alloc (.cells #[.int .i64 v.lo, .int .i64 v.hi] 24) := ⟨_, rfl⟩
  have HS := Lib.hid (show SB s 24 w.heap.size W by rw [hW]; exact (Box.new _ 24 w rfl).old _)
  have HV := Lib.hid (show SB v 24 (w.heap.size + 1) W by rw [hW]; exact Box.new _ 24 _ (by simp))
  have hbw : Below w.heap.size w W := by rw [hW]; exact (by repeat' (first | exact Below.refl _ _ | assumption | apply below_drewN | apply Below.drew | (refine Below.alloc ?_ ?_ _) | (refine Below.setCell ?_ ?_ _) | (simp; done) | (simp; omega) | omega))
  rw [← hW]
  clear hW
  have s0 := HS.out.cell 0 rfl
  have s1 := HS.out.cell 1 rfl
  have sl := HS.out.lt
  have v0 := HV.out.cell 0 rfl
  have v1 := HV.out.cell 1 rfl
  have vl := HV.out.lt
  go_cut [7, 8] from 12 to 21 (fun s7 s8 wx => Below W.heap.size W wx ∧ ∃ g h, g ≠ h ∧ W.heap.size ≤ g ∧ W.heap.size ≤ h ∧ s7 = .pointer (some ⟨g, 0, none⟩) ∧ s8 = .pointer (some ⟨h, 0, none⟩) ∧ PC g (endL v s) wx ∧ PC h (endH v s) wx)
  case first =>
    go_region_held3 (fun w' => w'.cell? ⟨w.heap.size, 0, none⟩ = some (.int .i64 s.lo) ∧ w'.cell? ⟨w.heap.size, 1, none⟩ = some (.int .i64 s.hi) ∧ w'.cell? ⟨w.heap.size + 1, 0, none⟩ = some (.int .i64 v.lo) ∧ w'.cell? ⟨w.heap.size + 1, 1, none⟩ = some (.int .i64 v.hi)) ((refine ⟨(Below.cell (p := ⟨w.heap.size, 0, none⟩) (w := W) ?_ sl).trans s0, (Below.cell (p := ⟨w.heap.size, 1, none⟩) (w := W) ?_ sl).trans s1, (Below.cell (p := ⟨w.heap.size + 1, 0, none⟩) (w := W) ?_ vl).trans v0, (Below.cell (p := ⟨w.heap.size + 1, 1, none⟩) (w := W) ?_ vl).trans v1⟩ <;> (repeat' (first | assumption | exact Below.refl _ _ | apply Below.drew | (refine Below.setCell ?_ (by dsimp only; omega) _) | (refine Below.alloc ?_ (by first | omega | (simp; done) | (simp; omega)) _))))) (first | ((go_at_call 29; have hq8 := hb8.size; refine (errorT_any _ _ _ (by omega) (by omega)).mono ?_; rintro e w9 ⟨rfl, hb9⟩; have hbq : Below W.heap.size W w9 := Below.trans (by repeat' (first | assumption | exact Below.refl _ _ | apply Below.drew | (refine Below.alloc ?_ (by first | omega | (simp; done) | (simp; omega)) _))) (hb9.mono (by first | omega | (simp; done) | (simp; omega))); have hsq := hbq.size; have hs9 := hb9.size; (try simp at hs9); (try have hl9 : w8.heap.size < w9.heap.size := hs9); (try have hl9' : w8.heap.size + 1 < w9.heap.size := hs9); (try have hl9 : w8.heap.size < w9.heap.size := Nat.lt_of_succ_lt hl9'); (try have hn9 := Nat.ne_of_lt hl9); (try have hm9 := Nat.ne_of_lt hl9'); have hk9 : w8.heap.size ≤ w9.heap.size := (by omega); (try have ha9 := Nat.lt_of_lt_of_le hl8 hk9); (try have hd9 := Nat.lt_of_lt_of_le hl8' hk9); (try have ha9' := Nat.ne_of_lt ha9); (try have hd9' := Nat.ne_of_lt hd9); have y0 := hb9.cell (p := ⟨W.heap.size, 0, none⟩); have yf0 := hb9.frozen (p := ⟨W.heap.size, 0, none⟩); (try simp [go_sem] at y0); (try simp [go_sem] at yf0); have y1 := hb9.cell (p := ⟨W.heap.size, 1, none⟩); have yf1 := hb9.frozen (p := ⟨W.heap.size, 1, none⟩); (try simp [go_sem] at y1); (try simp [go_sem] at yf1); have y2 := hb9.cell (p := ⟨W.heap.size + 1, 0, none⟩); have yf2 := hb9.frozen (p := ⟨W.heap.size + 1, 0, none⟩); (try simp [go_sem] at y2); (try simp [go_sem] at yf2); have y3 := hb9.cell (p := ⟨W.heap.size + 1, 1, none⟩); have yf3 := hb9.frozen (p := ⟨W.heap.size + 1, 1, none⟩); (try simp [go_sem] at y3); (try simp [go_sem] at yf3); have y4 := hb9.cell (p := ⟨w8.heap.size, 0, none⟩); have yf4 := hb9.frozen (p := ⟨w8.heap.size, 0, none⟩); (try simp [go_sem] at y4); (try simp [go_sem] at yf4); have y5 := hb9.cell (p := ⟨w8.heap.size, 1, none⟩); have yf5 := hb9.frozen (p := ⟨w8.heap.size, 1, none⟩); (try simp [go_sem] at y5); (try simp [go_sem] at yf5); have y6 := hb9.cell (p := ⟨w8.heap.size + 1, 0, none⟩); have yf6 := hb9.frozen (p := ⟨w8.heap.size + 1, 0, none⟩); (try simp [go_sem] at y6); (try simp [go_sem] at yf6); have y7 := hb9.cell (p := ⟨w8.heap.size + 1, 1, none⟩); have yf7 := hb9.frozen (p := ⟨w8.heap.size + 1, 1, none⟩); (try simp [go_sem] at y7); (try simp [go_sem] at yf7))) | ((go_at_call 29; refine (errorT_any _ _ _ (by omega) (by omega)).mono ?_; rintro e w8 ⟨rfl, hb8⟩; have hbp : Below W.heap.size W w8 := Below.trans (by repeat' (first | assumption | exact Below.refl _ _ | apply Below.drew | (refine Below.alloc ?_ (by first | omega | (simp; done) | (simp; omega)) _))) (hb8.mono (by first | omega | (simp; done) | (simp; omega))); have hsp := hbp.size; have hs8 := hb8.size; (try simp at hs8); (try have hl8 : W.heap.size < w8.heap.size := hs8); (try have hl8' : W.heap.size + 1 < w8.heap.size := hs8); (try have hl8 : W.heap.size < w8.heap.size := Nat.lt_of_succ_lt hl8'); (try have hn8 := Nat.ne_of_lt hl8); (try have hn8' := Ne.symm hn8); (try have hm8 := Nat.ne_of_lt hl8'); have z0 := hb8.cell (p := ⟨W.heap.size, 0, none⟩); have zf0 := hb8.frozen (p := ⟨W.heap.size, 0, none⟩); (try simp [go_sem] at z0); (try simp [go_sem] at zf0); have z1 := hb8.cell (p := ⟨W.heap.size, 1, none⟩); have zf1 := hb8.frozen (p := ⟨W.heap.size, 1, none⟩); (try simp [go_sem] at z1); (try simp [go_sem] at zf1); have z2 := hb8.cell (p := ⟨W.heap.size + 1, 0, none⟩); have zf2 := hb8.frozen (p := ⟨W.heap.size + 1, 0, none⟩); (try simp [go_sem] at z2); (try simp [go_sem] at zf2); have z3 := hb8.cell (p := ⟨W.heap.size + 1, 1, none⟩); have zf3 := hb8.frozen (p := ⟨W.heap.size + 1, 1, none⟩); (try simp [go_sem] at z3); (try simp [go_sem] at zf3))))
    all_goals
      go_wp2_with fail
      go_meet
      go_light
      refine ⟨?_, _, _, ?_, ?_, ?_, rfl, rfl, ⟨?_, ?_, ?_, ?_⟩, ⟨?_, ?_, ?_, ?_⟩⟩
      · repeat' (first | assumption | (refine Below.setCell ?_ (by dsimp only; omega) _) | (refine Below.alloc ?_ (by first | omega | (simp; done) | (simp; omega)) _))
      · omega
      · omega
      · omega
      all_goals first | (simp [go_sem, *, endL, endH]; done) | (have hx0 := y0 (by omega); have hx1 := y1 (by omega); simp [go_sem, *, endL, endH]; done)
  case rest =>
    obtain ⟨hbx, g, h, hgh, hg, hh, rfl, rfl, hG, hH⟩ := hcut
    clear s0 s1 sl v0 v1 vl
    generalize endL v s = L at *
    generalize endH v s = H at *
    go_upto_region 3 with fail
    obtain ⟨W3, hW⟩ : ∃ X, X = two2 ⟨-most, 1⟩ ⟨most, 1⟩ 50 50 wc := ⟨_, rfl⟩
    obtain ⟨BA, BZ, hb, hsz⟩ := two2_boxes hW
    dsimp only [two2] at hW
    rw [← hW]
    clear hW
    have hb2 := hbx.trans (hb.mono hbx.size)
    have hbw' := hbw.trans (hb2.mono hbw.size)
    have HS' := Lib.hid (HS.out.below hb2)
    have HV' := Lib.hid (HV.out.below hb2)
    have PG := Lib.hid (hG.below hb)
    have PH := Lib.hid (hH.below hb)
    have HA := Lib.hid BA
    have HZ := Lib.hid BZ
    obtain ⟨p, hp⟩ : ∃ N, N = wc.heap.size := ⟨_, rfl⟩
    rw [← hp] at HA HZ hsz ⊢
    clear hp HS HV hbw hbx hb hb2 hG hH BA BZ hsz
    have HS := HS'
    have HV := HV'
    have hbw := hbw'
    clear HS' HV' hbw'
    have s0 := HS.out.cell 0 rfl
    have s1 := HS.out.cell 1 rfl
    have sl := HS.out.lt
    have v0 := HV.out.cell 0 rfl
    have v1 := HV.out.cell 1 rfl
    have vl := HV.out.lt
    have g0 := PG.out.c0
    have g1 := PG.out.c1
    have gl := PG.out.lt
    have h0 := PH.out.c0
    have h1 := PH.out.c1
    have hl := PH.out.lt
    have a0 := HA.out.cell 0 rfl
    have a1 := HA.out.cell 1 rfl
    have al := HA.out.lt
    have z0 := HZ.out.cell 0 rfl
    have z1 := HZ.out.cell 1 rfl
    have zl := HZ.out.lt
    by_cases c1 : L.lt ⟨-most, 1⟩ = true
    · have HC := Lib.hid (show L.lt ⟨-most, 1⟩ = true ∨ Frac.lt ⟨most, 1⟩ H = true from .inl c1)
      go_wp2_with fail
      refine (HC1.out _).mono ?_
      rintro e w3 ⟨rfl, hb3⟩
      rw [c1]
      have HS' := Lib.hid (HS.out.below hb3)
      have HV' := Lib.hid (HV.out.below hb3)
      have PG' := Lib.hid (PG.out.below hb3)
      have PH' := Lib.hid (PH.out.below hb3)
      have HA' := Lib.hid (HA.out.below hb3)
      have HZ' := Lib.hid (HZ.out.below hb3)
      have hbw' := hbw.trans (hb3.mono hbw.size)
      clear s0 s1 sl v0 v1 vl g0 g1 gl h0 h1 hl a0 a1 al z0 z1 zl
      clear HS HV PG PH HA HZ hbw hb3
      have HS := HS'
      have HV := HV'
      have PG := PG'
      have PH := PH'
      have HA := HA'
      have HZ := HZ'
      have hbw := hbw'
      clear HS' HV' PG' PH' HA' HZ' hbw'
      have s0 := HS.out.cell 0 rfl
      have s1 := HS.out.cell 1 rfl
      have sl := HS.out.lt
      have v0 := HV.out.cell 0 rfl
      have v1 := HV.out.cell 1 rfl
      have vl := HV.out.lt
      have g0 := PG.out.c0
      have g1 := PG.out.c1
      have gl := PG.out.lt
      have h0 := PH.out.c0
      have h1 := PH.out.c1
      have hl := PH.out.lt
      have a0 := HA.out.cell 0 rfl
      have a1 := HA.out.cell 1 rfl
      have al := HA.out.lt
      have z0 := HZ.out.cell 0 rfl
      have z1 := HZ.out.cell 1 rfl
      have zl := HZ.out.lt
      go_wp2_with fail
      refine (HC3.out _).mono ?_
      rintro e w5 ⟨rfl, hb3⟩
      by_cases c3 : H.lt ⟨-most, 1⟩ = true
      · rw [c3]
        have HS' := Lib.hid (HS.out.below hb3)
        have HV' := Lib.hid (HV.out.below hb3)
        have PG' := Lib.hid (PG.out.below hb3)
        have PH' := Lib.hid (PH.out.below hb3)
        have HA' := Lib.hid (HA.out.below hb3)
        have HZ' := Lib.hid (HZ.out.below hb3)
        have hbw' := hbw.trans (hb3.mono hbw.size)
        clear s0 s1 sl v0 v1 vl g0 g1 gl h0 h1 hl a0 a1 al z0 z1 zl
        clear HS HV PG PH HA HZ hbw hb3
        have HS := HS'
        have HV := HV'
        have PG := PG'
        have PH := PH'
        have HA := HA'
        have HZ := HZ'
        have hbw := hbw'
        clear HS' HV' PG' PH' HA' HZ' hbw'
        have s0 := HS.out.cell 0 rfl
        have s1 := HS.out.cell 1 rfl
        have sl := HS.out.lt
        have v0 := HV.out.cell 0 rfl
        have v1 := HV.out.cell 1 rfl
        have vl := HV.out.lt
        have g0 := PG.out.c0
        have g1 := PG.out.c1
        have gl := PG.out.lt
        have h0 := PH.out.c0
        have h1 := PH.out.c1
        have hl := PH.out.lt
        have a0 := HA.out.cell 0 rfl
        have a1 := HA.out.cell 1 rfl
        have al := HA.out.lt
        have z0 := HZ.out.cell 0 rfl
        have z1 := HZ.out.cell 1 rfl
        have zl := HZ.out.lt
        have HRS := Lib.hid (HD0.out HC.out (.inl c3))
        go_wp2_with fail
        go_ret
        exact ⟨by rw [HRS.out]; rfl, by first | exact hbw | exact hbw.drew⟩
      · replace c3 : H.lt ⟨-most, 1⟩ = false := by simpa using c3
        rw [c3]
        have HS' := Lib.hid (HS.out.below hb3)
        have HV' := Lib.hid (HV.out.below hb3)
        have PG' := Lib.hid (PG.out.below hb3)
        have PH' := Lib.hid (PH.out.below hb3)
        have HA' := Lib.hid (HA.out.below hb3)
        have HZ' := Lib.hid (HZ.out.below hb3)
        have hbw' := hbw.trans (hb3.mono hbw.size)
        clear s0 s1 sl v0 v1 vl g0 g1 gl h0 h1 hl a0 a1 al z0 z1 zl
        clear HS HV PG PH HA HZ hbw hb3
        have HS := HS'
        have HV := HV'
        have PG := PG'
        have PH := PH'
        have HA := HA'
        have HZ := HZ'
        have hbw := hbw'
        clear HS' HV' PG' PH' HA' HZ' hbw'
        have s0 := HS.out.cell 0 rfl
        have s1 := HS.out.cell 1 rfl
        have sl := HS.out.lt
        have v0 := HV.out.cell 0 rfl
        have v1 := HV.out.cell 1 rfl
        have vl := HV.out.lt
        have g0 := PG.out.c0
        have g1 := PG.out.c1
        have gl := PG.out.lt
        have h0 := PH.out.c0
        have h1 := PH.out.c1
        have hl := PH.out.lt
        have a0 := HA.out.cell 0 rfl
        have a1 := HA.out.cell 1 rfl
        have al := HA.out.lt
        have z0 := HZ.out.cell 0 rfl
        have z1 := HZ.out.cell 1 rfl
        have zl := HZ.out.lt
        go_wp2_with fail
        refine (HC4.out _).mono ?_
        rintro e w6 ⟨rfl, hb3⟩
        by_cases c4 : Frac.lt ⟨most, 1⟩ L = true
        · rw [c4]
          have HS' := Lib.hid (HS.out.below hb3)
          have HV' := Lib.hid (HV.out.below hb3)
          have PG' := Lib.hid (PG.out.below hb3)
          have PH' := Lib.hid (PH.out.below hb3)
          have HA' := Lib.hid (HA.out.below hb3)
          have HZ' := Lib.hid (HZ.out.below hb3)
          have hbw' := hbw.trans (hb3.mono hbw.size)
          clear s0 s1 sl v0 v1 vl g0 g1 gl h0 h1 hl a0 a1 al z0 z1 zl
          clear HS HV PG PH HA HZ hbw hb3
          have HS := HS'
          have HV := HV'
          have PG := PG'
          have PH := PH'
          have HA := HA'
          have HZ := HZ'
          have hbw := hbw'
          clear HS' HV' PG' PH' HA' HZ' hbw'
          have s0 := HS.out.cell 0 rfl
          have s1 := HS.out.cell 1 rfl
          have sl := HS.out.lt
          have v0 := HV.out.cell 0 rfl
          have v1 := HV.out.cell 1 rfl
          have vl := HV.out.lt
          have g0 := PG.out.c0
          have g1 := PG.out.c1
          have gl := PG.out.lt
          have h0 := PH.out.c0
          have h1 := PH.out.c1
          have hl := PH.out.lt
          have a0 := HA.out.cell 0 rfl
          have a1 := HA.out.cell 1 rfl
          have al := HA.out.lt
          have z0 := HZ.out.cell 0 rfl
          have z1 := HZ.out.cell 1 rfl
          have zl := HZ.out.lt
          have HRS := Lib.hid (HD0.out HC.out (.inr c4))
          go_wp2_with fail
          go_ret
          exact ⟨by rw [HRS.out]; rfl, by first | exact hbw | exact hbw.drew⟩
        · replace c4 : Frac.lt ⟨most, 1⟩ L = false := by simpa using c4
          rw [c4]
          have HS' := Lib.hid (HS.out.below hb3)
          have HV' := Lib.hid (HV.out.below hb3)
          have PG' := Lib.hid (PG.out.below hb3)
          have PH' := Lib.hid (PH.out.below hb3)
          have HA' := Lib.hid (HA.out.below hb3)
          have HZ' := Lib.hid (HZ.out.below hb3)
          have hbw' := hbw.trans (hb3.mono hbw.size)
          clear s0 s1 sl v0 v1 vl g0 g1 gl h0 h1 hl a0 a1 al z0 z1 zl
          clear HS HV PG PH HA HZ hbw hb3
          have HS := HS'
          have HV := HV'
          have PG := PG'
          have PH := PH'
          have HA := HA'
          have HZ := HZ'
          have hbw := hbw'
          clear HS' HV' PG' PH' HA' HZ' hbw'
          have s0 := HS.out.cell 0 rfl
          have s1 := HS.out.cell 1 rfl
          have sl := HS.out.lt
          have v0 := HV.out.cell 0 rfl
          have v1 := HV.out.cell 1 rfl
          have vl := HV.out.lt
          have g0 := PG.out.c0
          have g1 := PG.out.c1
          have gl := PG.out.lt
          have h0 := PH.out.c0
          have h1 := PH.out.c1
          have hl := PH.out.lt
          have a0 := HA.out.cell 0 rfl
          have a1 := HA.out.cell 1 rfl
          have al := HA.out.lt
          have z0 := HZ.out.cell 0 rfl
          have z1 := HZ.out.cell 1 rfl
          have zl := HZ.out.lt
          have HRS := Lib.hid (HDL.out HC.out c3 c4)
          clear HC
          obtain ⟨Wl, hWl⟩ : ∃ X, X = w6 := ⟨_, rfl⟩
          rw [← hWl] at HS HV PG PH HA HZ hbw s0 s1 sl v0 v1 vl g0 g1 gl h0 h1 hl a0 a1 al z0 z1 zl ⊢
          clear hWl
          go_wp2_with fail
          clear s0 s1 sl v0 v1 vl g0 g1 gl h0 h1 hl a0 a1 al z0 z1 zl
          go_loopw [11] (fun v11 wr => ∃ j : Nat, v11 = .int .i64 (s.lo + j) ∧ s.lo + j ≤ s.hi + 1 ∧ (∀ i : Nat, i < j → okN v most (s.lo + i) = false) ∧ Below Wl.heap.size Wl wr) (fun i _ => (s.hi + 1 - intOf i).toNat)
          case atStart => exact ⟨0, by simp, by omega, fun i hi => absurd hi (by omega), Below.refl _ _⟩
          case round =>
            obtain ⟨j, rfl, hj, hno, hbr⟩ := hrel
            have HNO := Lib.hid hno
            clear hno
            have HS2 := Lib.hid (HS.out.below hbr)
            have HV2 := Lib.hid (HV.out.below hbr)
            have HA2 := Lib.hid (HA.out.below hbr)
            have HZ2 := Lib.hid (HZ.out.below hbr)
            have hbz := hbw.trans (hbr.mono hbw.size)
            have s1 := HS2.out.cell 1 rfl
            have sl := HS2.out.lt
            obtain ⟨n, hn⟩ : ∃ n : Int, n = s.lo + j := ⟨_, rfl⟩
            rw [← hn] at hj ⊢
            have HNJ := Lib.hid hn
            have hn0 : 0 ≤ n := by omega
            clear hn
            by_cases hlt : n ≤ s.hi
            · have hd0 : decide (n ≤ s.hi) = true := by simpa using hlt
              have wn : IntKind.i64.wrap (n + 1) = n + 1 := IntWalk.i64_in _ (by omega)
              have k0 : ∀ W : Aft wr, W.val.cell? ⟨w.heap.size + 1, 0, none⟩ = some (.int .i64 v.lo) := fun W => (HV2.out.below W.below).cell 0 rfl
              have k1 : ∀ W : Aft wr, W.val.cell? ⟨w.heap.size + 1, 1, none⟩ = some (.int .i64 v.hi) := fun W => (HV2.out.below W.below).cell 1 rfl
              have k2 : ∀ W : Aft wr, W.val.cell? ⟨p, 0, none⟩ = some (.int .i64 (-most)) := fun W => (HA2.out.below W.below).cell 0 rfl
              have k3 : ∀ W : Aft wr, W.val.cell? ⟨p, 1, none⟩ = some (.int .i64 1) := fun W => (HA2.out.below W.below).cell 1 rfl
              have k4 : ∀ W : Aft wr, W.val.cell? ⟨p + 1, 0, none⟩ = some (.int .i64 most) := fun W => (HZ2.out.below W.below).cell 0 rfl
              have k5 : ∀ W : Aft wr, W.val.cell? ⟨p + 1, 1, none⟩ = some (.int .i64 1) := fun W => (HZ2.out.below W.below).cell 1 rfl
              have EOK := Lib.hid (show okN v most n = (!(Frac.lt ⟨10000 * (n - v.lo), v.lo⟩ ⟨-most, 1⟩) && !(Frac.lt ⟨most, 1⟩ ⟨10000 * (n - v.hi), v.hi⟩)) from rfl)
              rcases c5 : Frac.lt ⟨10000 * (n - v.lo), v.lo⟩ ⟨-most, 1⟩
              · rcases c6 : Frac.lt ⟨most, 1⟩ ⟨10000 * (n - v.hi), v.hi⟩
                · have hok : okN v most n = true := by rw [EOK.out, c5, c6]; rfl
                  have HOK := Lib.hid hok
                  clear hok
                  go_wp2_with fail
                  refine wp_region_aft (by kernel_rfl) (by kernel_rfl) ?_
                  repeat (go_big_quiet_step (first | (go_at_call 29; exact aft_call (errorT_any _ _ _ (by omega) (by omega))) | (go_at_call 30; exact aft_call (lessF_any _ _ _ _ _ (by omega) (by omega)))))
                  refine wpQuiet_nil ?_
                  rintro ⟨wy, hby⟩
                  clear k0 k1 k2 k3 k4 k5
                  go_wp2_with fail
                  go_ret
                  have h8 := HNJ.out
                  have h9 : okN v most (s.lo + j) = true := by rw [← h8]; exact HOK.out
                  have h7 : j < (s.hi - s.lo + 1).toNat := by omega
                  exact ⟨by rw [HRS.out, if_pos (anyB_iff.2 ⟨j, h7, h9⟩)]; rfl, hbz.trans (hby.mono hbz.size)⟩
                · have hok : okN v most n = false := by rw [EOK.out, c5, c6]; rfl
                  have HOK := Lib.hid hok
                  clear hok
                  go_wp2_with fail
                  refine wp_region_aft (by kernel_rfl) (by kernel_rfl) ?_
                  repeat (go_big_quiet_step (first | (go_at_call 29; exact aft_call (errorT_any _ _ _ (by omega) (by omega))) | (go_at_call 30; exact aft_call (lessF_any _ _ _ _ _ (by omega) (by omega)))))
                  refine wpQuiet_nil ?_
                  rintro ⟨wy, hby⟩
                  clear k0 k1 k2 k3 k4 k5
                  go_wp2_with fail
                  go_roundw
                  case rel => exact ⟨j + 1, by first | go_num | (have := HNJ.out; go_num), by have := HNJ.out; omega, fun i hi => by
                    by_cases e : i = j
                    · subst e; rw [← HNJ.out]; exact HOK.out
                    · exact HNO.out i (by omega), hbr.trans (hby.mono hbr.size)⟩
                  case measure => simp [intOf]; omega
              · have hok : okN v most n = false := by rw [EOK.out, c5]; rfl
                have HOK := Lib.hid hok
                clear hok
                go_wp2_with fail
                refine wp_region_aft (by kernel_rfl) (by kernel_rfl) ?_
                repeat (go_big_quiet_step (first | (go_at_call 29; exact aft_call (errorT_any _ _ _ (by omega) (by omega))) | (go_at_call 30; exact aft_call (lessF_any _ _ _ _ _ (by omega) (by omega)))))
                refine wpQuiet_nil ?_
                rintro ⟨wy, hby⟩
                clear k0 k1 k2 k3 k4 k5
                go_wp2_with fail
                go_roundw
                case rel => exact ⟨j + 1, by first | go_num | (have := HNJ.out; go_num), by have := HNJ.out; omega, fun i hi => by
                  by_cases e : i = j
                  · subst e; rw [← HNJ.out]; exact HOK.out
                  · exact HNO.out i (by omega), hbr.trans (hby.mono hbr.size)⟩
                case measure => simp [intOf]; omega
            · have hd0 : decide (n ≤ s.hi) = false := by simpa using hlt
              go_wp2_with fail
              go_ret
              exact ⟨by
                rw [HRS.out, if_neg (fun ha => by
                  obtain ⟨i, hi, h9⟩ := anyB_iff.1 ha
                  have h8 := HNJ.out
                  rw [HNO.out i (by omega)] at h9
                  cases h9)]
                rfl, hbz⟩
    · replace c1 : L.lt ⟨-most, 1⟩ = false := by simpa using c1
      go_wp2_with fail
      refine (HC1.out _).mono ?_
      rintro e w3 ⟨rfl, hb3⟩
      rw [c1]
      have HS' := Lib.hid (HS.out.below hb3)
      have HV' := Lib.hid (HV.out.below hb3)
      have PG' := Lib.hid (PG.out.below hb3)
      have PH' := Lib.hid (PH.out.below hb3)
      have HA' := Lib.hid (HA.out.below hb3)
      have HZ' := Lib.hid (HZ.out.below hb3)
      have hbw' := hbw.trans (hb3.mono hbw.size)
      clear s0 s1 sl v0 v1 vl g0 g1 gl h0 h1 hl a0 a1 al z0 z1 zl
      clear HS HV PG PH HA HZ hbw hb3
      have HS := HS'
      have HV := HV'
      have PG := PG'
      have PH := PH'
      have HA := HA'
      have HZ := HZ'
      have hbw := hbw'
      clear HS' HV' PG' PH' HA' HZ' hbw'
      have s0 := HS.out.cell 0 rfl
      have s1 := HS.out.cell 1 rfl
      have sl := HS.out.lt
      have v0 := HV.out.cell 0 rfl
      have v1 := HV.out.cell 1 rfl
      have vl := HV.out.lt
      have g0 := PG.out.c0
      have g1 := PG.out.c1
      have gl := PG.out.lt
      have h0 := PH.out.c0
      have h1 := PH.out.c1
      have hl := PH.out.lt
      have a0 := HA.out.cell 0 rfl
      have a1 := HA.out.cell 1 rfl
      have al := HA.out.lt
      have z0 := HZ.out.cell 0 rfl
      have z1 := HZ.out.cell 1 rfl
      have zl := HZ.out.lt
      go_wp2_with fail
      refine (HC2.out _).mono ?_
      rintro e w4 ⟨rfl, hb3⟩
      by_cases c2 : Frac.lt ⟨most, 1⟩ H = true
      · rw [c2]
        have HC := Lib.hid (show L.lt ⟨-most, 1⟩ = true ∨ Frac.lt ⟨most, 1⟩ H = true from .inr c2)
        have HS' := Lib.hid (HS.out.below hb3)
        have HV' := Lib.hid (HV.out.below hb3)
        have PG' := Lib.hid (PG.out.below hb3)
        have PH' := Lib.hid (PH.out.below hb3)
        have HA' := Lib.hid (HA.out.below hb3)
        have HZ' := Lib.hid (HZ.out.below hb3)
        have hbw' := hbw.trans (hb3.mono hbw.size)
        clear s0 s1 sl v0 v1 vl g0 g1 gl h0 h1 hl a0 a1 al z0 z1 zl
        clear HS HV PG PH HA HZ hbw hb3
        have HS := HS'
        have HV := HV'
        have PG := PG'
        have PH := PH'
        have HA := HA'
        have HZ := HZ'
        have hbw := hbw'
        clear HS' HV' PG' PH' HA' HZ' hbw'
        have s0 := HS.out.cell 0 rfl
        have s1 := HS.out.cell 1 rfl
        have sl := HS.out.lt
        have v0 := HV.out.cell 0 rfl
        have v1 := HV.out.cell 1 rfl
        have vl := HV.out.lt
        have g0 := PG.out.c0
        have g1 := PG.out.c1
        have gl := PG.out.lt
        have h0 := PH.out.c0
        have h1 := PH.out.c1
        have hl := PH.out.lt
        have a0 := HA.out.cell 0 rfl
        have a1 := HA.out.cell 1 rfl
        have al := HA.out.lt
        have z0 := HZ.out.cell 0 rfl
        have z1 := HZ.out.cell 1 rfl
        have zl := HZ.out.lt
        go_wp2_with fail
        refine (HC3.out _).mono ?_
        rintro e w5 ⟨rfl, hb3⟩
        by_cases c3 : H.lt ⟨-most, 1⟩ = true
        · rw [c3]
          have HS' := Lib.hid (HS.out.below hb3)
          have HV' := Lib.hid (HV.out.below hb3)
          have PG' := Lib.hid (PG.out.below hb3)
          have PH' := Lib.hid (PH.out.below hb3)
          have HA' := Lib.hid (HA.out.below hb3)
          have HZ' := Lib.hid (HZ.out.below hb3)
          have hbw' := hbw.trans (hb3.mono hbw.size)
          clear s0 s1 sl v0 v1 vl g0 g1 gl h0 h1 hl a0 a1 al z0 z1 zl
          clear HS HV PG PH HA HZ hbw hb3
          have HS := HS'
          have HV := HV'
          have PG := PG'
          have PH := PH'
          have HA := HA'
          have HZ := HZ'
          have hbw := hbw'
          clear HS' HV' PG' PH' HA' HZ' hbw'
          have s0 := HS.out.cell 0 rfl
          have s1 := HS.out.cell 1 rfl
          have sl := HS.out.lt
          have v0 := HV.out.cell 0 rfl
          have v1 := HV.out.cell 1 rfl
          have vl := HV.out.lt
          have g0 := PG.out.c0
          have g1 := PG.out.c1
          have gl := PG.out.lt
          have h0 := PH.out.c0
          have h1 := PH.out.c1
          have hl := PH.out.lt
          have a0 := HA.out.cell 0 rfl
          have a1 := HA.out.cell 1 rfl
          have al := HA.out.lt
          have z0 := HZ.out.cell 0 rfl
          have z1 := HZ.out.cell 1 rfl
          have zl := HZ.out.lt
          have HRS := Lib.hid (HD0.out HC.out (.inl c3))
          go_wp2_with fail
          go_ret
          exact ⟨by rw [HRS.out]; rfl, by first | exact hbw | exact hbw.drew⟩
        · replace c3 : H.lt ⟨-most, 1⟩ = false := by simpa using c3
          rw [c3]
          have HS' := Lib.hid (HS.out.below hb3)
          have HV' := Lib.hid (HV.out.below hb3)
          have PG' := Lib.hid (PG.out.below hb3)
          have PH' := Lib.hid (PH.out.below hb3)
          have HA' := Lib.hid (HA.out.below hb3)
          have HZ' := Lib.hid (HZ.out.below hb3)
          have hbw' := hbw.trans (hb3.mono hbw.size)
          clear s0 s1 sl v0 v1 vl g0 g1 gl h0 h1 hl a0 a1 al z0 z1 zl
          clear HS HV PG PH HA HZ hbw hb3
          have HS := HS'
          have HV := HV'
          have PG := PG'
          have PH := PH'
          have HA := HA'
          have HZ := HZ'
          have hbw := hbw'
          clear HS' HV' PG' PH' HA' HZ' hbw'
          have s0 := HS.out.cell 0 rfl
          have s1 := HS.out.cell 1 rfl
          have sl := HS.out.lt
          have v0 := HV.out.cell 0 rfl
          have v1 := HV.out.cell 1 rfl
          have vl := HV.out.lt
          have g0 := PG.out.c0
          have g1 := PG.out.c1
          have gl := PG.out.lt
          have h0 := PH.out.c0
          have h1 := PH.out.c1
          have hl := PH.out.lt
          have a0 := HA.out.cell 0 rfl
          have a1 := HA.out.cell 1 rfl
          have al := HA.out.lt
          have z0 := HZ.out.cell 0 rfl
          have z1 := HZ.out.cell 1 rfl
          have zl := HZ.out.lt
          go_wp2_with fail
          refine (HC4.out _).mono ?_
          rintro e w6 ⟨rfl, hb3⟩
          by_cases c4 : Frac.lt ⟨most, 1⟩ L = true
          · rw [c4]
            have HS' := Lib.hid (HS.out.below hb3)
            have HV' := Lib.hid (HV.out.below hb3)
            have PG' := Lib.hid (PG.out.below hb3)
            have PH' := Lib.hid (PH.out.below hb3)
            have HA' := Lib.hid (HA.out.below hb3)
            have HZ' := Lib.hid (HZ.out.below hb3)
            have hbw' := hbw.trans (hb3.mono hbw.size)
            clear s0 s1 sl v0 v1 vl g0 g1 gl h0 h1 hl a0 a1 al z0 z1 zl
            clear HS HV PG PH HA HZ hbw hb3
            have HS := HS'
            have HV := HV'
            have PG := PG'
            have PH := PH'
            have HA := HA'
            have HZ := HZ'
            have hbw := hbw'
            clear HS' HV' PG' PH' HA' HZ' hbw'
            have s0 := HS.out.cell 0 rfl
            have s1 := HS.out.cell 1 rfl
            have sl := HS.out.lt
            have v0 := HV.out.cell 0 rfl
            have v1 := HV.out.cell 1 rfl
            have vl := HV.out.lt
            have g0 := PG.out.c0
            have g1 := PG.out.c1
            have gl := PG.out.lt
            have h0 := PH.out.c0
            have h1 := PH.out.c1
            have hl := PH.out.lt
            have a0 := HA.out.cell 0 rfl
            have a1 := HA.out.cell 1 rfl
            have al := HA.out.lt
            have z0 := HZ.out.cell 0 rfl
            have z1 := HZ.out.cell 1 rfl
            have zl := HZ.out.lt
            have HRS := Lib.hid (HD0.out HC.out (.inr c4))
            go_wp2_with fail
            go_ret
            exact ⟨by rw [HRS.out]; rfl, by first | exact hbw | exact hbw.drew⟩
          · replace c4 : Frac.lt ⟨most, 1⟩ L = false := by simpa using c4
            rw [c4]
            have HS' := Lib.hid (HS.out.below hb3)
            have HV' := Lib.hid (HV.out.below hb3)
            have PG' := Lib.hid (PG.out.below hb3)
            have PH' := Lib.hid (PH.out.below hb3)
            have HA' := Lib.hid (HA.out.below hb3)
            have HZ' := Lib.hid (HZ.out.below hb3)
            have hbw' := hbw.trans (hb3.mono hbw.size)
            clear s0 s1 sl v0 v1 vl g0 g1 gl h0 h1 hl a0 a1 al z0 z1 zl
            clear HS HV PG PH HA HZ hbw hb3
            have HS := HS'
            have HV := HV'
            have PG := PG'
            have PH := PH'
            have HA := HA'
            have HZ := HZ'
            have hbw := hbw'
            clear HS' HV' PG' PH' HA' HZ' hbw'
            have s0 := HS.out.cell 0 rfl
            have s1 := HS.out.cell 1 rfl
            have sl := HS.out.lt
            have v0 := HV.out.cell 0 rfl
            have v1 := HV.out.cell 1 rfl
            have vl := HV.out.lt
            have g0 := PG.out.c0
            have g1 := PG.out.c1
            have gl := PG.out.lt
            have h0 := PH.out.c0
            have h1 := PH.out.c1
            have hl := PH.out.lt
            have a0 := HA.out.cell 0 rfl
            have a1 := HA.out.cell 1 rfl
            have al := HA.out.lt
            have z0 := HZ.out.cell 0 rfl
            have z1 := HZ.out.cell 1 rfl
            have zl := HZ.out.lt
            have HRS := Lib.hid (HDL.out HC.out c3 c4)
            clear HC
            obtain ⟨Wl, hWl⟩ : ∃ X, X = w6 := ⟨_, rfl⟩
            rw [← hWl] at HS HV PG PH HA HZ hbw s0 s1 sl v0 v1 vl g0 g1 gl h0 h1 hl a0 a1 al z0 z1 zl ⊢
            clear hWl
            go_wp2_with fail
            clear s0 s1 sl v0 v1 vl g0 g1 gl h0 h1 hl a0 a1 al z0 z1 zl
            go_loopw [11] (fun v11 wr => ∃ j : Nat, v11 = .int .i64 (s.lo + j) ∧ s.lo + j ≤ s.hi + 1 ∧ (∀ i : Nat, i < j → okN v most (s.lo + i) = false) ∧ Below Wl.heap.size Wl wr) (fun i _ => (s.hi + 1 - intOf i).toNat)
            case atStart => exact ⟨0, by simp, by omega, fun i hi => absurd hi (by omega), Below.refl _ _⟩
            case round =>
              obtain ⟨j, rfl, hj, hno, hbr⟩ := hrel
              have HNO := Lib.hid hno
              clear hno
              have HS2 := Lib.hid (HS.out.below hbr)
              have HV2 := Lib.hid (HV.out.below hbr)
              have HA2 := Lib.hid (HA.out.below hbr)
              have HZ2 := Lib.hid (HZ.out.below hbr)
              have hbz := hbw.trans (hbr.mono hbw.size)
              have s1 := HS2.out.cell 1 rfl
              have sl := HS2.out.lt
              obtain ⟨n, hn⟩ : ∃ n : Int, n = s.lo + j := ⟨_, rfl⟩
              rw [← hn] at hj ⊢
              have HNJ := Lib.hid hn
              have hn0 : 0 ≤ n := by omega
              clear hn
              by_cases hlt : n ≤ s.hi
              · have hd0 : decide (n ≤ s.hi) = true := by simpa using hlt
                have wn : IntKind.i64.wrap (n + 1) = n + 1 := IntWalk.i64_in _ (by omega)
                have k0 : ∀ W : Aft wr, W.val.cell? ⟨w.heap.size + 1, 0, none⟩ = some (.int .i64 v.lo) := fun W => (HV2.out.below W.below).cell 0 rfl
                have k1 : ∀ W : Aft wr, W.val.cell? ⟨w.heap.size + 1, 1, none⟩ = some (.int .i64 v.hi) := fun W => (HV2.out.below W.below).cell 1 rfl
                have k2 : ∀ W : Aft wr, W.val.cell? ⟨p, 0, none⟩ = some (.int .i64 (-most)) := fun W => (HA2.out.below W.below).cell 0 rfl
                have k3 : ∀ W : Aft wr, W.val.cell? ⟨p, 1, none⟩ = some (.int .i64 1) := fun W => (HA2.out.below W.below).cell 1 rfl
                have k4 : ∀ W : Aft wr, W.val.cell? ⟨p + 1, 0, none⟩ = some (.int .i64 most) := fun W => (HZ2.out.below W.below).cell 0 rfl
                have k5 : ∀ W : Aft wr, W.val.cell? ⟨p + 1, 1, none⟩ = some (.int .i64 1) := fun W => (HZ2.out.below W.below).cell 1 rfl
                have EOK := Lib.hid (show okN v most n = (!(Frac.lt ⟨10000 * (n - v.lo), v.lo⟩ ⟨-most, 1⟩) && !(Frac.lt ⟨most, 1⟩ ⟨10000 * (n - v.hi), v.hi⟩)) from rfl)
                rcases c5 : Frac.lt ⟨10000 * (n - v.lo), v.lo⟩ ⟨-most, 1⟩
                · rcases c6 : Frac.lt ⟨most, 1⟩ ⟨10000 * (n - v.hi), v.hi⟩
                  · have hok : okN v most n = true := by rw [EOK.out, c5, c6]; rfl
                    have HOK := Lib.hid hok
                    clear hok
                    go_wp2_with fail
                    refine wp_region_aft (by kernel_rfl) (by kernel_rfl) ?_
                    repeat (go_big_quiet_step (first | (go_at_call 29; exact aft_call (errorT_any _ _ _ (by omega) (by omega))) | (go_at_call 30; exact aft_call (lessF_any _ _ _ _ _ (by omega) (by omega)))))
                    refine wpQuiet_nil ?_
                    rintro ⟨wy, hby⟩
                    clear k0 k1 k2 k3 k4 k5
                    go_wp2_with fail
                    go_ret
                    have h8 := HNJ.out
                    have h9 : okN v most (s.lo + j) = true := by rw [← h8]; exact HOK.out
                    have h7 : j < (s.hi - s.lo + 1).toNat := by omega
                    exact ⟨by rw [HRS.out, if_pos (anyB_iff.2 ⟨j, h7, h9⟩)]; rfl, hbz.trans (hby.mono hbz.size)⟩
                  · have hok : okN v most n = false := by rw [EOK.out, c5, c6]; rfl
                    have HOK := Lib.hid hok
                    clear hok
                    go_wp2_with fail
                    refine wp_region_aft (by kernel_rfl) (by kernel_rfl) ?_
                    repeat (go_big_quiet_step (first | (go_at_call 29; exact aft_call (errorT_any _ _ _ (by omega) (by omega))) | (go_at_call 30; exact aft_call (lessF_any _ _ _ _ _ (by omega) (by omega)))))
                    refine wpQuiet_nil ?_
                    rintro ⟨wy, hby⟩
                    clear k0 k1 k2 k3 k4 k5
                    go_wp2_with fail
                    go_roundw
                    case rel => exact ⟨j + 1, by first | go_num | (have := HNJ.out; go_num), by have := HNJ.out; omega, fun i hi => by
                      by_cases e : i = j
                      · subst e; rw [← HNJ.out]; exact HOK.out
                      · exact HNO.out i (by omega), hbr.trans (hby.mono hbr.size)⟩
                    case measure => simp [intOf]; omega
                · have hok : okN v most n = false := by rw [EOK.out, c5]; rfl
                  have HOK := Lib.hid hok
                  clear hok
                  go_wp2_with fail
                  refine wp_region_aft (by kernel_rfl) (by kernel_rfl) ?_
                  repeat (go_big_quiet_step (first | (go_at_call 29; exact aft_call (errorT_any _ _ _ (by omega) (by omega))) | (go_at_call 30; exact aft_call (lessF_any _ _ _ _ _ (by omega) (by omega)))))
                  refine wpQuiet_nil ?_
                  rintro ⟨wy, hby⟩
                  clear k0 k1 k2 k3 k4 k5
                  go_wp2_with fail
                  go_roundw
                  case rel => exact ⟨j + 1, by first | go_num | (have := HNJ.out; go_num), by have := HNJ.out; omega, fun i hi => by
                    by_cases e : i = j
                    · subst e; rw [← HNJ.out]; exact HOK.out
                    · exact HNO.out i (by omega), hbr.trans (hby.mono hbr.size)⟩
                  case measure => simp [intOf]; omega
              · have hd0 : decide (n ≤ s.hi) = false := by simpa using hlt
                go_wp2_with fail
                go_ret
                exact ⟨by
                  rw [HRS.out, if_neg (fun ha => by
                    obtain ⟨i, hi, h9⟩ := anyB_iff.1 ha
                    have h8 := HNJ.out
                    rw [HNO.out i (by omega)] at h9
                    cases h9)]
                  rfl, hbz⟩
      · replace c2 : Frac.lt ⟨most, 1⟩ H = false := by simpa using c2
        rw [c2]
        have HS' := Lib.hid (HS.out.below hb3)
        have HV' := Lib.hid (HV.out.below hb3)
        have PG' := Lib.hid (PG.out.below hb3)
        have PH' := Lib.hid (PH.out.below hb3)
        have HA' := Lib.hid (HA.out.below hb3)
        have HZ' := Lib.hid (HZ.out.below hb3)
        have hbw' := hbw.trans (hb3.mono hbw.size)
        clear s0 s1 sl v0 v1 vl g0 g1 gl h0 h1 hl a0 a1 al z0 z1 zl
        clear HS HV PG PH HA HZ hbw hb3
        have HS := HS'
        have HV := HV'
        have PG := PG'
        have PH := PH'
        have HA := HA'
        have HZ := HZ'
        have hbw := hbw'
        clear HS' HV' PG' PH' HA' HZ' hbw'
        have s0 := HS.out.cell 0 rfl
        have s1 := HS.out.cell 1 rfl
        have sl := HS.out.lt
        have v0 := HV.out.cell 0 rfl
        have v1 := HV.out.cell 1 rfl
        have vl := HV.out.lt
        have g0 := PG.out.c0
        have g1 := PG.out.c1
        have gl := PG.out.lt
        have h0 := PH.out.c0
        have h1 := PH.out.c1
        have hl := PH.out.lt
        have a0 := HA.out.cell 0 rfl
        have a1 := HA.out.cell 1 rfl
        have al := HA.out.lt
        have z0 := HZ.out.cell 0 rfl
        have z1 := HZ.out.cell 1 rfl
        have zl := HZ.out.lt
        have HRS := Lib.hid (HD2.out c1 c2)
        go_wp2_with fail
        go_ret
        exact ⟨by rw [HRS.out]; rfl, by first | exact hbw | exact hbw.drew⟩
end Go.Proofs.Ythoefcpeagclbaa
