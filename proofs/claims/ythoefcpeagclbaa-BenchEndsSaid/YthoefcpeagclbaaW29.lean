/- Whether a meter of a row passes: the closure. -/
import Derived.Test.YthoefcpeagclbaaW27
namespace Go.Proofs.Ythoefcpeagclbaa
open Go.RowKit
set_option maxHeartbeats 400000 in
theorem compareF_any (a b : Frac) (w : World) (h1 : -4000000000000000000 ≤ a.top * b.under ∧ a.top * b.under ≤ 4000000000000000000) (h2 : -4000000000000000000 ≤ b.top * a.under ∧ b.top * a.under ≤ 4000000000000000000) :
    Calls Try.prog 47 #[a.val, b.val] w fun e w' => ∃ d : Int, e = .returned (.int .i64 d) ∧ decide (0 ≤ d) = !(a.lt b) ∧ decide (d ≤ 0) = !(b.lt a) ∧ Below w.heap.size w w' := by
  refine (compare_any a b w h1 h2).mono ?_
  rintro e w1 ⟨rfl, hb⟩
  refine ⟨_, rfl, ?_, ?_, hb⟩
  · simp only [Frac.lt, ← decide_not, decide_eq_decide]; omega
  · simp only [Frac.lt, ← decide_not, decide_eq_decide]; omega
set_option maxRecDepth 100000 in
set_option maxHeartbeats 4000000 in
theorem pass1_any (v s : Spn) (most : Int) (g h : Nat) (w : World) (h0 : 1 ≤ v.lo) (h1 : v.lo ≤ v.hi) (hv : v.hi ≤ 100000000000000) (h2 : 0 ≤ s.lo ∧ s.lo ≤ 1073741824) (h3 : 0 ≤ s.hi ∧ s.hi ≤ 1073741824) (hm : 0 ≤ most ∧ most ≤ 10000)
    (hG : SB v 83 g w) (hH : Box h #[.int .i64 most] 3 w) :
    Calls Try.prog 45 #[s.val, .pointer (some ⟨g, 0, none⟩), .pointer (some ⟨h, 0, none⟩)] w fun e w' => e = .returned (.int .i64 (passR v s most)) ∧ Below w.heap.size w w' := by
  have W1 : IntKind.i64.wrap (-most) = -most := IntWalk.i64_in _ (by omega)
  have W2 : IntKind.i64.wrap (10000 - most) = 10000 - most := IntWalk.i64_in _ (by omega)
  have W3 : IntKind.i64.wrap (10000 + most) = 10000 + most := IntWalk.i64_in _ (by omega)
  have M1 := mulb (a := v.lo) (b := 10000 - most) (x := 100000000000000) (y := 10000) (by omega) (by omega) (by omega) (by omega)
  have M2 := mulb (a := v.hi) (b := 10000 + most) (x := 100000000000000) (y := 20000) (by omega) (by omega) (by omega) (by omega)
  obtain ⟨x1, hx1⟩ : ∃ x, x = v.lo * (10000 - most) := ⟨_, rfl⟩
  obtain ⟨x2, hx2⟩ : ∃ x, x = v.hi * (10000 + most) := ⟨_, rfl⟩
  have W4 : IntKind.i64.wrap (v.lo * (10000 - most)) = x1 := by rw [hx1]; exact IntWalk.i64_in _ (by omega)
  have W5 : IntKind.i64.wrap (v.hi * (10000 + most)) = x2 := by rw [hx2]; exact IntWalk.i64_in _ (by omega)
  have M3 := mulb (a := most) (b := v.hi) (x := 10000) (y := 100000000000000) (by omega) (by omega) (by omega) (by omega)
  have M4 := mulb (a := most) (b := v.lo) (x := 10000) (y := 100000000000000) (by omega) (by omega) (by omega) (by omega)
  have HC1 := Lib.hid (fun w' => compareF_any (endL v s) ⟨-most, 1⟩ w' (by simp only [endL]; omega) (by simp only [endL, Int.neg_mul]; omega))
  have HC2 := Lib.hid (fun w' => compareF_any (endH v s) ⟨most, 1⟩ w' (by simp only [endH]; omega) (by simp only [endH]; omega))
  have HE := Lib.hid (fun w' => ends_any' v s w' (by omega) (by omega) (by omega) (by omega))
  have HY := Lib.hid (passR_yes (v := v) (s := s) (most := most))
  have HNo := Lib.hid (passR_no (v := v) (s := s) (most := most))
  have HSo := Lib.hid (passR_some (v := v) (s := s) (most := most))
  have eA : rnd 1 x1 10000 = passA v most := by rw [hx1]; rfl
  have eZ : rnd 0 x2 10000 = passZ v most := by rw [hx2]; rfl
  rw [← eA, ← eZ] at HNo HSo
  have X1 : -4000000000000000000 ≤ x1 ∧ x1 ≤ 4000000000000000000 := by omega
  have X2 : -4000000000000000000 ≤ x2 ∧ x2 ≤ 4000000000000000000 := by omega
  clear M1 M2 M3 M4 eA eZ hv h0 h1 hx1 hx2
  generalize endL v s = L at *
  generalize endH v s = H at *
  generalize passR v s most = res at *
  have g0 := hG.cell 0 rfl
  have g1 := hG.cell 1 rfl
  have gl := hG.lt
  have m0 := hH.cell 0 rfl
  have hl := hH.lt
  have HG := Lib.hid hG
  have HM := Lib.hid hH
  clear hG hH
  go_enter Try.func45, Try.ntmps45
  go_wp2_with fail
  obtain ⟨W, hW⟩ : ∃ X, X = w.alloc (.cells #[.int .i64 s.lo, .int .i64 s.hi] 24) := ⟨_, rfl⟩
  have HS := Lib.hid (show SB s 24 w.heap.size W by rw [hW]; exact Box.new _ 24 w rfl)
  have hb : Below w.heap.size w W := by rw [hW]; exact below_alloc1 w _
  rw [← hW]
  clear hW
  refine (HE.out W).mono ?_
  rintro e w1 ⟨rfl, hb1⟩
  have hb2 := hb.trans (hb1.mono hb.size)
  have HG1 := Lib.hid (HG.out.below hb2)
  have HM1 := Lib.hid (HM.out.below hb2)
  have HS1 := Lib.hid (HS.out.below hb1)
  clear hb1 hb g0 g1 gl m0 hl HS HG HM HE
  go_upto_region 2 with fail
  obtain ⟨W, hW⟩ : ∃ X, X = two2 L H 74 74 w1 := ⟨_, rfl⟩
  obtain ⟨B5, B6, hb, hsz⟩ := two2_boxes hW
  dsimp only [two2] at hW
  rw [← hW]
  clear hW
  have hbw := hb2.trans (hb.mono hb2.size)
  have HG := Lib.hid (HG1.out.below hb)
  have HM := Lib.hid (HM1.out.below hb)
  have HS := Lib.hid (HS1.out.below hb)
  have H5 := Lib.hid B5
  have H6 := Lib.hid B6
  obtain ⟨p, hp⟩ : ∃ N, N = w1.heap.size := ⟨_, rfl⟩
  rw [← hp] at H5 H6 hsz ⊢
  clear hp HG1 HM1 HS1 B5 B6 hb hb2 hsz
  have g0 := HG.out.cell 0 rfl
  have g1 := HG.out.cell 1 rfl
  have gl := HG.out.lt
  have m0 := HM.out.cell 0 rfl
  have ml := HM.out.lt
  have s0 := HS.out.cell 0 rfl
  have s1 := HS.out.cell 1 rfl
  have sl := HS.out.lt
  have p0 := H5.out.cell 0 rfl
  have p1 := H5.out.cell 1 rfl
  have pl := H5.out.lt
  have q0 := H6.out.cell 0 rfl
  have q1 := H6.out.cell 1 rfl
  have ql := H6.out.lt
  by_cases c1 : L.lt ⟨-most, 1⟩ = true
  · skip
    have c2 : L.lt ⟨-most, 1⟩ = true ∨ Frac.lt ⟨most, 1⟩ H = true := .inl c1
    have HC := Lib.hid c2
    clear c2
    go_wp2_with fail
    refine (HC1.out _).mono ?_
    rintro e w3 ⟨d, rfl, hd, -, hb3⟩
    rw [c1] at hd
    have HG' := Lib.hid (HG.out.below hb3)
    have HM' := Lib.hid (HM.out.below hb3)
    have HS' := Lib.hid (HS.out.below hb3)
    have H5' := Lib.hid (H5.out.below hb3)
    have H6' := Lib.hid (H6.out.below hb3)
    have hbw' := hbw.trans (hb3.mono hbw.size)
    clear HG HM HS H5 H6 hbw hb3 g0 g1 gl m0 ml s0 s1 sl p0 p1 pl q0 q1 ql
    have HG := HG'
    have HM := HM'
    have HS := HS'
    have H5 := H5'
    have H6 := H6'
    have hbw := hbw'
    clear HG' HM' HS' H5' H6' hbw'
    have g0 := HG.out.cell 0 rfl
    have g1 := HG.out.cell 1 rfl
    have gl := HG.out.lt
    have m0 := HM.out.cell 0 rfl
    have ml := HM.out.lt
    have s0 := HS.out.cell 0 rfl
    have s1 := HS.out.cell 1 rfl
    have sl := HS.out.lt
    have p0 := H5.out.cell 0 rfl
    have p1 := H5.out.cell 1 rfl
    have pl := H5.out.lt
    have q0 := H6.out.cell 0 rfl
    have q1 := H6.out.cell 1 rfl
    have ql := H6.out.lt
    go_wp2_with fail
    obtain ⟨wXX, hXX⟩ : ∃ Y, Y = w3 := ⟨_, rfl⟩
    rw [← hXX] at HG HM HS hbw ⊢
    clear hXX g0 g1 gl m0 ml s0 s1 sl p0 p1 pl q0 q1 ql H5 H6
    have a0 : ∀ W : Aft wXX, W.val.cell? ⟨g, 0, none⟩ = some (.int .i64 v.lo) := fun W => (HG.out.below W.below).cell 0 rfl
    have a1 : ∀ W : Aft wXX, W.val.cell? ⟨g, 1, none⟩ = some (.int .i64 v.hi) := fun W => (HG.out.below W.below).cell 1 rfl
    have a2 : ∀ W : Aft wXX, W.val.cell? ⟨h, 0, none⟩ = some (.int .i64 most) := fun W => (HM.out.below W.below).cell 0 rfl
    refine wp_region_aft (by kernel_rfl) (by kernel_rfl) ?_
    repeat (go_big_quiet_step ((go_at_call 35; exact aft_call (round_tu _ _ _ _ (by first | exact .inl rfl | exact .inr rfl) (by omega) (by omega)))))
    refine wpQuiet_nil ?_
    rintro ⟨wy, hby⟩
    generalize rnd 1 x1 10000 = pa at *
    generalize rnd 0 x2 10000 = pz at *
    have HS2 := HS.out.below hby
    have s0 := HS2.cell 0 rfl
    have s1 := HS2.cell 1 rfl
    have sl := HS2.lt
    have hbz := hbw.trans (hby.mono hbw.size)
    clear a0 a1 a2 HS2
    by_cases hc : min pz s.hi < max pa s.lo
    · have hres := Lib.hid (HNo.out HC.out hc)
      have hcd : decide (min pz s.hi < max pa s.lo) = true := by simpa using hc
      go_wp2_with fail
      go_ret
      exact ⟨by rw [hres.out]; rfl, hbz⟩
    · have hres := Lib.hid (HSo.out HC.out (by omega))
      have hcd : decide (min pz s.hi < max pa s.lo) = false := by simpa using hc
      go_wp2_with fail
      go_ret
      exact ⟨by rw [hres.out]; rfl, hbz⟩
  · replace c1 : L.lt ⟨-most, 1⟩ = false := by simpa using c1
    go_wp2_with fail
    refine (HC1.out _).mono ?_
    rintro e w3 ⟨d, rfl, hd, -, hb3⟩
    rw [c1] at hd
    have HG' := Lib.hid (HG.out.below hb3)
    have HM' := Lib.hid (HM.out.below hb3)
    have HS' := Lib.hid (HS.out.below hb3)
    have H5' := Lib.hid (H5.out.below hb3)
    have H6' := Lib.hid (H6.out.below hb3)
    have hbw' := hbw.trans (hb3.mono hbw.size)
    clear HG HM HS H5 H6 hbw hb3 g0 g1 gl m0 ml s0 s1 sl p0 p1 pl q0 q1 ql
    have HG := HG'
    have HM := HM'
    have HS := HS'
    have H5 := H5'
    have H6 := H6'
    have hbw := hbw'
    clear HG' HM' HS' H5' H6' hbw'
    have g0 := HG.out.cell 0 rfl
    have g1 := HG.out.cell 1 rfl
    have gl := HG.out.lt
    have m0 := HM.out.cell 0 rfl
    have ml := HM.out.lt
    have s0 := HS.out.cell 0 rfl
    have s1 := HS.out.cell 1 rfl
    have sl := HS.out.lt
    have p0 := H5.out.cell 0 rfl
    have p1 := H5.out.cell 1 rfl
    have pl := H5.out.lt
    have q0 := H6.out.cell 0 rfl
    have q1 := H6.out.cell 1 rfl
    have ql := H6.out.lt
    go_wp2_with fail
    refine (HC2.out _).mono ?_
    rintro e w4 ⟨d', rfl, -, hd', hb4⟩
    by_cases c2 : Frac.lt ⟨most, 1⟩ H = true
    · rw [c2] at hd'
      have HC := Lib.hid (show L.lt ⟨-most, 1⟩ = true ∨ Frac.lt ⟨most, 1⟩ H = true from .inr c2)
      have hb3 := hb4
      clear hb4
      have HG' := Lib.hid (HG.out.below hb3)
      have HM' := Lib.hid (HM.out.below hb3)
      have HS' := Lib.hid (HS.out.below hb3)
      have H5' := Lib.hid (H5.out.below hb3)
      have H6' := Lib.hid (H6.out.below hb3)
      have hbw' := hbw.trans (hb3.mono hbw.size)
      clear HG HM HS H5 H6 hbw hb3 g0 g1 gl m0 ml s0 s1 sl p0 p1 pl q0 q1 ql
      have HG := HG'
      have HM := HM'
      have HS := HS'
      have H5 := H5'
      have H6 := H6'
      have hbw := hbw'
      clear HG' HM' HS' H5' H6' hbw'
      have g0 := HG.out.cell 0 rfl
      have g1 := HG.out.cell 1 rfl
      have gl := HG.out.lt
      have m0 := HM.out.cell 0 rfl
      have ml := HM.out.lt
      have s0 := HS.out.cell 0 rfl
      have s1 := HS.out.cell 1 rfl
      have sl := HS.out.lt
      have p0 := H5.out.cell 0 rfl
      have p1 := H5.out.cell 1 rfl
      have pl := H5.out.lt
      have q0 := H6.out.cell 0 rfl
      have q1 := H6.out.cell 1 rfl
      have ql := H6.out.lt
      go_wp2_with fail
      obtain ⟨wXX, hXX⟩ : ∃ Y, Y = w4 := ⟨_, rfl⟩
      rw [← hXX] at HG HM HS hbw ⊢
      clear hXX g0 g1 gl m0 ml s0 s1 sl p0 p1 pl q0 q1 ql H5 H6
      have a0 : ∀ W : Aft wXX, W.val.cell? ⟨g, 0, none⟩ = some (.int .i64 v.lo) := fun W => (HG.out.below W.below).cell 0 rfl
      have a1 : ∀ W : Aft wXX, W.val.cell? ⟨g, 1, none⟩ = some (.int .i64 v.hi) := fun W => (HG.out.below W.below).cell 1 rfl
      have a2 : ∀ W : Aft wXX, W.val.cell? ⟨h, 0, none⟩ = some (.int .i64 most) := fun W => (HM.out.below W.below).cell 0 rfl
      refine wp_region_aft (by kernel_rfl) (by kernel_rfl) ?_
      repeat (go_big_quiet_step ((go_at_call 35; exact aft_call (round_tu _ _ _ _ (by first | exact .inl rfl | exact .inr rfl) (by omega) (by omega)))))
      refine wpQuiet_nil ?_
      rintro ⟨wy, hby⟩
      generalize rnd 1 x1 10000 = pa at *
      generalize rnd 0 x2 10000 = pz at *
      have HS2 := HS.out.below hby
      have s0 := HS2.cell 0 rfl
      have s1 := HS2.cell 1 rfl
      have sl := HS2.lt
      have hbz := hbw.trans (hby.mono hbw.size)
      clear a0 a1 a2 HS2
      by_cases hc : min pz s.hi < max pa s.lo
      · have hres := Lib.hid (HNo.out HC.out hc)
        have hcd : decide (min pz s.hi < max pa s.lo) = true := by simpa using hc
        go_wp2_with fail
        go_ret
        exact ⟨by rw [hres.out]; rfl, hbz⟩
      · have hres := Lib.hid (HSo.out HC.out (by omega))
        have hcd : decide (min pz s.hi < max pa s.lo) = false := by simpa using hc
        go_wp2_with fail
        go_ret
        exact ⟨by rw [hres.out]; rfl, hbz⟩
    · replace c2 : Frac.lt ⟨most, 1⟩ H = false := by simpa using c2
      rw [c2] at hd'
      have hres := HY.out c1 c2
      have HRS := Lib.hid hres
      clear hres
      go_wp2_with fail
      go_ret
      exact ⟨by rw [HRS.out]; rfl, hbw.trans (hb4.mono hbw.size)⟩
end Go.Proofs.Ythoefcpeagclbaa
