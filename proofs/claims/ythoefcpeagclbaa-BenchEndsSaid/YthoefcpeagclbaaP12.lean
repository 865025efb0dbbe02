/- With narrower spans and a lesser Off the water is no wider, nor are the errors, and who passes, or does not, still does, or does not; plain, no program in sight. -/
import Derived.Test.YthoefcpeagclbaaP11
namespace Go.Proofs.Ythoefcpeagclbaa
/-- a bench and a catch that are known better -/
structure Finer (b b' : Bnch) (x y : Ctch) : Prop where
  w : b'.weighs = b.weighs
  n : b'.n = b.n
  t : b'.t = b.t
  buoy : b'.buoy = b.buoy
  off0 : 0 ≤ b'.off
  off1 : b'.off ≤ b.off
  air0 : b.air.lo ≤ b'.air.lo
  air1 : b'.air.lo ≤ b'.air.hi
  air2 : b'.air.hi = b.air.hi
  warm : y.warm = x.warm
  beg0 : x.beg.lo ≤ y.beg.lo
  beg1 : y.beg.lo ≤ y.beg.hi
  beg2 : y.beg.hi = x.beg.hi
  fin0 : y.fin.lo = x.fin.lo
  fin1 : y.fin.lo ≤ y.fin.hi
  fin2 : y.fin.hi ≤ x.fin.hi
theorem Finer.valid {b b' : Bnch} {x y : Ctch} (h : Finer b b' x y) (hv : b.valid = true) : b'.valid = true := by
  have ha := valid_all hv
  have h1 := h.off0
  have h2 := h.off1
  have h3 := h.air0
  have h4 := h.air1
  have h5 := h.air2
  simp only [Bnch.valid, Bool.and_eq_true, withinB, spanB, decide_eq_true_eq] at hv ⊢
  rw [h.w, h.n, h.t, h.buoy]
  exact ⟨hv.1, ⟨⟨⟨hv.2.1.1.1, by omega⟩, hv.2.1.2⟩, by omega⟩⟩
theorem Finer.first {b b' : Bnch} {x y : Ctch} (h : Finer b b' x y) : b'.first = b.first := by unfold Bnch.first; rw [h.t]
theorem Finer.last {b b' : Bnch} {x y : Ctch} (h : Finer b b' x y) : b'.last = b.last := by unfold Bnch.last; rw [h.n, h.t]
theorem Finer.right {b b' : Bnch} {x y : Ctch} (h : Finer b b' x y) (hr : b.rightB x = true) : b'.rightB y = true := by
  have h1 := h.beg0
  have h2 := h.beg1
  have h3 := h.beg2
  have h4 := h.fin0
  have h5 := h.fin1
  have h6 := h.fin2
  unfold Bnch.rightB at hr ⊢
  rw [h.w]
  by_cases hw : b.weighs = true
  · rw [if_pos hw] at hr ⊢
    simp only [Bnch.scaleOk, spanB, Bool.and_eq_true, decide_eq_true_eq] at hr ⊢
    rw [h.first, h.last, h.warm]
    obtain ⟨⟨⟨r1, r2, r3⟩, r4, r5, r6⟩, r7⟩ := hr
    exact ⟨⟨⟨by omega, by omega, by omega⟩, by omega, by omega, by omega⟩, r7⟩
  · rw [if_neg hw] at hr ⊢
    simp only [Bnch.tankOk, spanB, Bool.and_eq_true, decide_eq_true_eq] at hr ⊢
    rw [h.first, h.last]
    obtain ⟨⟨r1, r2, r3⟩, r4, r5, r6⟩ := hr
    exact ⟨⟨by omega, by omega, by omega⟩, by omega, by omega, by omega⟩
theorem Finer.water {b b' : Bnch} {x y : Ctch} (h : Finer b b' x y) (hz : (b.waterR x).2 = 0) :
    (b'.waterF y).2.2 = true ∧ ((b.waterF x).1).le (b'.waterF y).1 ∧ ((b'.waterF y).2.1).le (b.waterF x).2.1 := by
  obtain ⟨hv, hr, hi, hu, -⟩ := waterR_ok hz
  have hV := valid_tab hv
  have ha := valid_all hv
  have o0 := h.off0
  have o1 := h.off1
  have h1 := h.beg0
  have h2 := h.beg1
  have h3 := h.beg2
  have h4 := h.fin0
  have h5 := h.fin1
  have h6 := h.fin2
  unfold Bnch.waterF
  rw [h.w]
  by_cases hw : b.weighs = true
  · rw [if_pos hw, if_pos hw]
    obtain ⟨hl, hs⟩ := scale_in hz hw
    have hs3 := hs
    simp only [Bnch.scaleOk, spanB, Bool.and_eq_true, decide_eq_true_eq] at hs3
    obtain ⟨-, r7', r8, r9'⟩ := hs3
    have r7 : (b.t 0).at_ ≤ x.warm.lo := r7'
    have r9 : x.warm.hi ≤ (b.t (b.n - 1)).at_ := r9'
    have DZ := dense_true hV (x := x) r7 r9 (Int.le_refl x.warm.lo) r8
    have e1 : b.light x = x.fin.lo - x.beg.hi - 2 * b.off := rfl
    have e2 : b'.light y = y.fin.lo - y.beg.hi - 2 * b'.off := rfl
    have e3 : b.heavy x = x.fin.hi - x.beg.lo + 2 * b.off := rfl
    have e4 : b'.heavy y = y.fin.hi - y.beg.lo + 2 * b'.off := rfl
    have k1 : b'.thick y = b.thick x := by unfold Bnch.thick; rw [h.n, h.t, h.warm]
    have k2 : b'.thin y = b.thin x := by unfold Bnch.thin; rw [h.n, h.t, h.warm]
    have d0 := at_dense hV r7 (Int.le_trans r8 r9)
    have da := ext_dense hV r7 r8 r9
    have DT : Dense (b.thin x) := bestN_dense (better := Frac.lt) (t := extF b.n b.t x.warm) d0 da
    have DK : Dense (b.thick x) := bestN_dense (better := fun a b => Frac.lt b a) (t := extF b.n b.t x.warm) d0 da
    have tT := DT.t0
    have tK := DK.t0
    have uT := DT.u0
    have uK := DK.u0
    unfold Bnch.scaleW
    rw [if_neg (by omega), if_neg (by omega), k1, k2, h.buoy]
    exact ⟨rfl, scale_le (by omega) (by omega) (by omega) (Int.le_refl _) uK (by omega) uK (by omega) (Frac.le_refl _), scale_le (by omega) (by omega) (by omega) (Int.le_refl _) uT (by omega) uT (by omega) (Frac.le_refl _)⟩
  · have hw' : b.weighs = false := by simpa using hw
    rw [if_neg hw, if_neg hw]
    have hrise := valid_rise hv hw'
    unfold Bnch.rightB at hr
    rw [if_neg hw] at hr
    simp only [Bnch.tankOk, spanB, Bool.and_eq_true, decide_eq_true_eq] at hr
    obtain ⟨⟨r1', r2, r3'⟩, r4', r5, r6'⟩ := hr
    have r1 : (b.t 0).at_ ≤ x.beg.lo := r1'
    have r3 : x.beg.hi ≤ (b.t (b.n - 1)).at_ := r3'
    have r4 : (b.t 0).at_ ≤ x.fin.lo := r4'
    have r6 : x.fin.hi ≤ (b.t (b.n - 1)).at_ := r6'
    unfold Bnch.tankW
    rw [h.n, h.t, h4, h3]
    have D1 := at_dense hV (x := x.fin.lo) r4 (by omega)
    have D2 := at_dense hV (x := x.beg.hi) (by omega) r3
    have D3 := at_dense hV (x := x.fin.hi) (by omega) r6
    have D4 := at_dense hV (x := x.beg.lo) r1 (by omega)
    have D5 := at_dense hV (x := y.fin.hi) (by omega) (by omega)
    have D6 := at_dense hV (x := y.beg.lo) (by omega) (by omega)
    exact ⟨rfl, minus_le D1.u0 D2.u0 D1.u0 D2.u0 (Frac.le_refl _) (Frac.le_refl _) (by omega), minus_le D5.u0 D6.u0 D3.u0 D4.u0 (tab_rise hV hrise (by omega) h6 r6) (tab_rise hV hrise r1 h1 (by omega)) (by omega)⟩
theorem Finer.span {b b' : Bnch} {x y : Ctch} (h : Finer b b' x y) (hz : (b.waterR x).2 = 0) : (b'.waterR y).2 = 0 ∧ (b.waterR x).1.lo ≤ (b'.waterR y).1.lo ∧ (b'.waterR y).1.hi ≤ (b.waterR x).1.hi := by
  obtain ⟨hv, hr, hi, hu, he⟩ := waterR_ok hz
  obtain ⟨p1, p2, p3⟩ := h.water hz
  have hv' := h.valid hv
  have hr' := h.right hr
  obtain ⟨O1, O2⟩ := water_ok hv hr hi
  obtain ⟨O3, O4⟩ := water_ok hv' hr' p1
  have one : Frac.le ⟨1, 1⟩ (b.waterF x).1 := by simp only [Frac.le]; omega
  have one' := Frac.le_trans (a := ⟨1, 1⟩) (by decide) O1.u0 O3.u0 one p2
  simp only [Frac.le] at one'
  have hs : ((b'.waterF y).2.2 && decide ((b'.waterF y).1.under ≤ (b'.waterF y).1.top)) = true := by
    simp only [Bool.and_eq_true, decide_eq_true_eq]; exact ⟨p1, by omega⟩
  rw [waterR_yes hv' hr' hs, he]
  have d1 := Frac.down_mono O1.u0 O3.u0 p2
  have d2 := Frac.up_mono O4.u0 O2.u0 p3
  have a0 := h.air0
  have a2 := h.air2
  refine ⟨rfl, ?_, ?_⟩ <;> dsimp only <;> omega
theorem err_finer {v v' s : Spn} (h0 : 1 ≤ v.lo) (h1 : v.lo ≤ v'.lo) (h2 : v'.lo ≤ v'.hi) (h3 : v'.hi ≤ v.hi) (hs : 0 ≤ s.lo) (ht : 0 ≤ s.hi) : (errR v s).lo ≤ (errR v' s).lo ∧ (errR v' s).hi ≤ (errR v s).hi :=
  ⟨Frac.down_mono (a := errF s.lo v.hi) (b := errF s.lo v'.hi) (by simp only [errF]; omega) (by simp only [errF]; omega) (errF_le (by omega) hs (Int.le_refl _) h3 (by omega)),
    Frac.up_mono (a := errF s.hi v'.lo) (b := errF s.hi v.lo) (by simp only [errF]; omega) (by simp only [errF]; omega) (errF_le (by omega) ht (Int.le_refl _) h1 (by omega))⟩
/-- whether a meter passes, by products -/
theorem yes_iff {v s : Spn} {most : Int} : ((endL v s).lt ⟨-most, 1⟩ = false ∧ Frac.lt ⟨most, 1⟩ (endH v s) = false) ↔ v.hi * 10000 - v.hi * most ≤ s.lo * 10000 ∧ s.hi * 10000 ≤ v.lo * 10000 + v.lo * most := by
  have eL : endL v s = errF s.lo v.hi := rfl
  have eH : endH v s = errF s.hi v.lo := rfl
  rw [eL, eH, Bool.eq_false_iff, Bool.eq_false_iff, Ne, Ne, err_less, err_more]
  omega
theorem no_iff {v s : Spn} {most : Int} (hs : s.lo ≤ s.hi) : min (passZ v most) s.hi < max (passA v most) s.lo ↔ ¬ (passA v most ≤ s.hi ∧ s.lo ≤ passZ v most ∧ passA v most ≤ passZ v most) := by omega
theorem pass_two {v s : Spn} {most : Int} : passR v s most = 2 ↔ v.hi * 10000 - v.hi * most ≤ s.lo * 10000 ∧ s.hi * 10000 ≤ v.lo * 10000 + v.lo * most := by
  rw [← yes_iff]
  unfold passR
  constructor
  · intro h
    split at h
    · assumption
    · split at h <;> omega
  · intro h
    rw [if_pos h]
/-- a meter that passes in each truth, or in none, does so if more is known -/
theorem pass_finer {v v' s : Spn} {most : Int} (h1 : v.lo ≤ v'.lo) (h2 : v'.lo ≤ v'.hi) (h3 : v'.hi ≤ v.hi) (hs : s.lo ≤ s.hi) (hm : 0 ≤ most ∧ most ≤ 10000) (hp : passR v s most ≠ 1) : passR v' s most = passR v s most := by
  have a1 : v'.hi * (10000 - most) ≤ v.hi * (10000 - most) := Int.mul_le_mul_of_nonneg_right h3 (by omega)
  have a2 : v.lo * (10000 - most) ≤ v'.lo * (10000 - most) := Int.mul_le_mul_of_nonneg_right h1 (by omega)
  have a3 : v'.lo * (10000 - most) ≤ v'.hi * (10000 - most) := Int.mul_le_mul_of_nonneg_right h2 (by omega)
  have b1 : v'.hi * (10000 + most) ≤ v.hi * (10000 + most) := Int.mul_le_mul_of_nonneg_right h3 (by omega)
  have b2 : v.lo * (10000 + most) ≤ v'.lo * (10000 + most) := Int.mul_le_mul_of_nonneg_right h1 (by omega)
  have b3 : v'.lo * (10000 + most) ≤ v'.hi * (10000 + most) := Int.mul_le_mul_of_nonneg_right h2 (by omega)
  simp only [Int.mul_sub, Int.mul_add] at a1 a2 a3 b1 b2 b3
  by_cases h : passR v s most = 2
  · rw [h]
    rw [pass_two] at h ⊢
    omega
  · have hn : passR v s most = 0 := by
      unfold passR at h hp ⊢
      split
      · rename_i h9; rw [if_pos h9] at h; omega
      · rename_i h9
        rw [if_neg h9] at hp
        split
        · rfl
        · rename_i h8; rw [if_neg h8] at hp; omega
    rw [hn]
    have hz : min (passZ v most) s.hi < max (passA v most) s.lo := by
      unfold passR at hn
      split at hn
      · omega
      · split at hn
        · assumption
        · omega
    have q1 : passA v most ≤ passA v' most := passA_le.2 (by have := (passA_le (v := v') (most := most) (n := passA v' most)).1 (Int.le_refl _); omega)
    have q2 : passZ v' most ≤ passZ v most := le_passZ.2 (by have := (le_passZ (v := v') (most := most) (n := passZ v' most)).1 (Int.le_refl _); omega)
    have hz' : min (passZ v' most) s.hi < max (passA v' most) s.lo := by omega
    have h2' : ¬ passR v' s most = 2 := by
      rw [pass_two]
      rintro ⟨c1, c2⟩
      have p1 : passA v' most ≤ s.lo := passA_le.2 (by omega)
      have p2 : s.hi ≤ passZ v' most := le_passZ.2 (by omega)
      omega
    unfold passR at h2' ⊢
    split
    · rename_i h9; rw [if_pos h9] at h2'; omega
    · first | rfl | rw [if_pos hz']
/-- a meter that passes with some most passes with a greater one -/
theorem pass_more {v s : Spn} {most most' : Int} (h0 : 1 ≤ v.lo) (h1 : v.lo ≤ v.hi) (hs : s.lo ≤ s.hi) (hm : most ≤ most') : passR v s most ≤ passR v s most' := by
  have a1 : v.hi * most ≤ v.hi * most' := Int.mul_le_mul_of_nonneg_left hm (by omega)
  have a2 : v.lo * most ≤ v.lo * most' := Int.mul_le_mul_of_nonneg_left hm (by omega)
  have q1 : passA v most' ≤ passA v most := passA_le.2 (by have := (passA_le (v := v) (most := most) (n := passA v most)).1 (Int.le_refl _); omega)
  have q2 : passZ v most ≤ passZ v most' := le_passZ.2 (by have := (le_passZ (v := v) (most := most) (n := passZ v most)).1 (Int.le_refl _); omega)
  by_cases h : passR v s most = 2
  · have : passR v s most' = 2 := by rw [pass_two] at h ⊢; omega
    omega
  · have n0 : ∀ mo, 0 ≤ passR v s mo := fun mo => by unfold passR; split <;> (try split) <;> omega
    by_cases hn : passR v s most = 0
    · rw [hn]; exact n0 _
    · have hz : ¬ min (passZ v most) s.hi < max (passA v most) s.lo := fun hz => by
        unfold passR at hn h
        split at hn
        · rename_i h9; rw [if_pos h9] at h; omega
        · first | omega | (rw [if_pos hz] at hn; omega)
      have hz' : ¬ min (passZ v most') s.hi < max (passA v most') s.lo := by omega
      have e1 : passR v s most ≤ 1 := by
        unfold passR at h ⊢
        split
        · rename_i h9; rw [if_pos h9] at h; omega
        · first | omega | (split <;> omega)
      have e2 : 1 ≤ passR v s most' := by
        unfold passR
        split
        · omega
        · first | omega | (rw [if_neg hz']; omega)
      omega
end Go.Proofs.Ythoefcpeagclbaa
