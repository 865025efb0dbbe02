/- What a truth is, by remainders; it lies within what the bench tells, and so do the flow, the errors, and who passes; plain, no program in sight. -/
import Derived.Test.YthoefcpeagclbaaP3
namespace Go.Proofs.Ythoefcpeagclbaa
def pickV (s : Spn) (q : Nat) : Int := s.lo + (q : Int) % (s.hi - s.lo + 1)
theorem pick_in {s : Spn} (h : s.lo ≤ s.hi) (q : Nat) : s.lo ≤ pickV s q ∧ pickV s q ≤ s.hi := by
  have h1 := Int.emod_nonneg (q : Int) (show s.hi - s.lo + 1 ≠ 0 by omega)
  have h2 := Int.emod_lt_of_pos (q : Int) (show 0 < s.hi - s.lo + 1 by omega)
  unfold pickV
  omega
def offV (b : Bnch) (q : Nat → Nat) : Int := pickV ⟨-b.off, b.off⟩ (q 1) - pickV ⟨-b.off, b.off⟩ (q 2)
def truthS (b : Bnch) (x : Ctch) (q : Nat → Nat) : Frac := ⟨(pickV x.fin (q 4) - pickV x.beg (q 3) + offV b q) * (1000000 + pickV b.buoy (q 6)) * (tabAt b.n b.t (pickV x.warm (q 5))).under, (tabAt b.n b.t (pickV x.warm (q 5))).top⟩
def truthT (b : Bnch) (x : Ctch) (q : Nat → Nat) : Frac := (tabAt b.n b.t (pickV x.fin (q 4))).minus (tabAt b.n b.t (pickV x.beg (q 3))) (-offV b q)
def truthF (b : Bnch) (x : Ctch) (q : Nat → Nat) : Frac := if b.weighs then truthS b x q else truthT b x q
theorem waterR_ok {b : Bnch} {x : Ctch} (h : (b.waterR x).2 = 0) : b.valid = true ∧ b.rightB x = true ∧ (b.waterF x).2.2 = true ∧ (b.waterF x).1.under ≤ (b.waterF x).1.top ∧ b.waterR x = (⟨(b.waterF x).1.down + b.air.lo, (b.waterF x).2.1.up + b.air.hi⟩, 0) := by
  by_cases hv : b.valid = true
  · by_cases hr : b.rightB x = true
    · by_cases hs : ((b.waterF x).2.2 && decide ((b.waterF x).1.under ≤ (b.waterF x).1.top)) = true
      · have hs2 := hs
        simp only [Bool.and_eq_true, decide_eq_true_eq] at hs2
        exact ⟨hv, hr, hs2.1, hs2.2, waterR_yes hv hr hs⟩
      · rw [waterR_no hv hr hs] at h; simp at h
    · unfold Bnch.waterR at h
      rw [if_pos hv, if_neg hr] at h; simp at h
  · unfold Bnch.waterR at h
    rw [if_neg hv] at h; simp at h
theorem off_in {b : Bnch} (hv : b.valid = true) (q : Nat → Nat) : -(2 * b.off) ≤ offV b q ∧ offV b q ≤ 2 * b.off := by
  have ho := (valid_all hv).2.2.2.1
  have h1 := pick_in (s := ⟨-b.off, b.off⟩) (by dsimp only; omega) (q 1)
  have h2 := pick_in (s := ⟨-b.off, b.off⟩) (by dsimp only; omega) (q 2)
  unfold offV
  dsimp only at h1 h2
  omega
theorem scale_in {b : Bnch} {x : Ctch} (h : (b.waterR x).2 = 0) (hw : b.weighs = true) : 0 < b.light x ∧ b.scaleOk x = true := by
  obtain ⟨hv, hr, hi, -, -⟩ := waterR_ok h
  unfold Bnch.waterF at hi
  unfold Bnch.rightB at hr
  rw [if_pos hw] at hi hr
  refine ⟨?_, hr⟩
  unfold Bnch.scaleW at hi
  by_cases hl : b.light x ≤ 0
  · rw [if_pos hl] at hi; cases hi
  · omega
/-- what is so of the numbers of a truth: a scale -/
theorem truthS_all {b : Bnch} {x : Ctch} (h : (b.waterR x).2 = 0) (hw : b.weighs = true) (q : Nat → Nat) :
    ((b.t 0).at_ ≤ pickV x.warm (q 5) ∧ pickV x.warm (q 5) ≤ (b.t (b.n - 1)).at_) ∧ (0 < pickV x.fin (q 4) - pickV x.beg (q 3) + offV b q ∧ pickV x.fin (q 4) - pickV x.beg (q 3) + offV b q ≤ 30000000) ∧
    (0 ≤ pickV b.buoy (q 6) ∧ pickV b.buoy (q 6) ≤ 10000) := by
  obtain ⟨hv, -⟩ := waterR_ok h
  obtain ⟨hl, hr⟩ := scale_in h hw
  have ha := valid_all hv
  have hr : ((0 ≤ x.beg.lo ∧ x.beg.lo ≤ x.beg.hi ∧ x.beg.hi ≤ 10000000) ∧ (0 ≤ x.fin.lo ∧ x.fin.lo ≤ x.fin.hi ∧ x.fin.hi ≤ 10000000)) ∧ ((b.t 0).at_ ≤ x.warm.lo ∧ x.warm.lo ≤ x.warm.hi ∧ x.warm.hi ≤ (b.t (b.n - 1)).at_) := by
    simp only [Bnch.scaleOk, spanB, Bool.and_eq_true, decide_eq_true_eq] at hr
    exact hr
  obtain ⟨⟨⟨r1, r2, r3⟩, r4, r5, r6⟩, r7, r8, r9⟩ := hr
  have h1 := pick_in (s := x.warm) (by omega) (q 5)
  have h2 := pick_in (s := x.fin) (by omega) (q 4)
  have h3 := pick_in (s := x.beg) (by omega) (q 3)
  have h4 := pick_in (s := b.buoy) (by omega) (q 6)
  have h5 := off_in hv q
  have e1 : b.light x = x.fin.lo - x.beg.hi - 2 * b.off := rfl
  omega
theorem truth_in {b : Bnch} {x : Ctch} (h : (b.waterR x).2 = 0) (q : Nat → Nat) : (truthF b x q).Ok ∧ ((b.waterF x).1).le (truthF b x q) ∧ (truthF b x q).le (b.waterF x).2.1 := by
  obtain ⟨hv, hr, hi, -, -⟩ := waterR_ok h
  have hV := valid_tab hv
  have ho := (valid_all hv).2.2.2.1
  have hoff := off_in hv q
  by_cases hw : b.weighs = true
  · obtain ⟨p1, p2, p3⟩ := truthS_all h hw q
    obtain ⟨hl, hr2⟩ := scale_in h hw
    have hr3 := hr2
    simp only [Bnch.scaleOk, spanB, Bool.and_eq_true, decide_eq_true_eq] at hr3
    obtain ⟨⟨⟨r1, r2, r3⟩, r4, r5, r6⟩, r7, r8, r9⟩ := hr3
    have T := scale_true hv hr2 hl (pick_in (by omega) (q 3)) (pick_in (by omega) (q 4)) hoff (pick_in (by have := (valid_all hv).2.2.2.2.1; omega) (q 6)) (pick_in (by omega) (q 5))
    unfold truthF Bnch.waterF
    rw [if_pos hw, if_pos hw]
    exact ⟨scale_ok (at_dense hV p1.1 p1.2) p2 p3, T.1, T.2⟩
  · have hw' : b.weighs = false := by simpa using hw
    have hr2 : b.tankOk x = true := by unfold Bnch.rightB at hr; rwa [if_neg hw] at hr
    have hr3 : ((b.t 0).at_ ≤ x.beg.lo ∧ x.beg.lo ≤ x.beg.hi ∧ x.beg.hi ≤ (b.t (b.n - 1)).at_) ∧ ((b.t 0).at_ ≤ x.fin.lo ∧ x.fin.lo ≤ x.fin.hi ∧ x.fin.hi ≤ (b.t (b.n - 1)).at_) := by
      have hr9 := hr2
      simp only [Bnch.tankOk, spanB, Bool.and_eq_true, decide_eq_true_eq] at hr9
      exact hr9
    obtain ⟨⟨r1, r2, r3⟩, r4, r5, r6⟩ := hr3
    have q3 := pick_in (s := x.beg) (by omega) (q 3)
    have q4 := pick_in (s := x.fin) (by omega) (q 4)
    have T := tank_true hv hr2 hw' q3 q4 hoff
    unfold truthF Bnch.waterF
    rw [if_neg hw, if_neg hw]
    exact ⟨tank_ok (at_dense hV (by omega) (by omega)) (at_dense hV (by omega) (by omega)) (by omega), T.1, T.2⟩
def airV (b : Bnch) (q : Nat → Nat) : Int := pickV b.air (q 0)
def lowV (b : Bnch) (x : Ctch) (q : Nat → Nat) : Int := (truthF b x q).down + airV b q
def highV (b : Bnch) (x : Ctch) (q : Nat → Nat) : Int := (truthF b x q).up + airV b q
/-- the water of a truth, between two integers -/
theorem low_high {b : Bnch} {x : Ctch} (h : (b.waterR x).2 = 0) (q : Nat → Nat) : (b.waterR x).1.lo ≤ lowV b x q ∧ lowV b x q ≤ highV b x q ∧ highV b x q ≤ (b.waterR x).1.hi ∧ 1 ≤ lowV b x q ∧ highV b x q ≤ 50000010000000 := by
  obtain ⟨hv, hr, hi, hu, he⟩ := waterR_ok h
  obtain ⟨O, l1, l2⟩ := truth_in h q
  obtain ⟨O1, O2⟩ := water_ok hv hr hi
  have hai := (valid_all hv).2.2.2.2.2
  have ha := pick_in (s := b.air) (by omega) (q 0)
  have d1 := Frac.down_mono O1.u0 O.u0 l1
  have d2 := Frac.up_mono O.u0 O2.u0 l2
  have d3 := (Frac.down_up O.u0).1
  have d4 : 1 ≤ (b.waterF x).1.down := (Int.le_ediv_iff_mul_le O1.u0).2 (by omega)
  have d5 := O2.up
  rw [he]
  unfold lowV highV airV
  dsimp only
  omega
theorem flow_in {v s : Spn} {low high t : Int} (h0 : 1 ≤ v.lo) (h1 : v.lo ≤ low) (h2 : low ≤ high) (h3 : high ≤ v.hi) (ht0 : 1 ≤ s.lo) (ht1 : s.lo ≤ t) (ht2 : t ≤ s.hi) :
    rnd 0 (v.lo * 3600) s.hi ≤ Frac.down ⟨low * 3600, t⟩ ∧ Frac.up ⟨high * 3600, t⟩ ≤ rnd 1 (v.hi * 3600) s.lo := by
  constructor
  · refine Frac.down_mono (a := ⟨v.lo * 3600, s.hi⟩) (b := ⟨low * 3600, t⟩) (by dsimp only; omega) (by dsimp only; omega) ?_
    simp only [Frac.le]
    have := Int.mul_le_mul (show v.lo * 3600 ≤ low * 3600 by omega) ht2 (by omega) (by omega)
    exact this
  · refine Frac.up_mono (a := ⟨high * 3600, t⟩) (b := ⟨v.hi * 3600, s.lo⟩) (by dsimp only; omega) (by dsimp only; omega) ?_
    simp only [Frac.le]
    have := Int.mul_le_mul (show high * 3600 ≤ v.hi * 3600 by omega) ht1 (by omega) (by omega)
    exact this
/-- the error of a meter that showed n, by what went through -/
def errF (n v : Int) : Frac := ⟨10000 * (n - v), v⟩
theorem errF_le {n n' v v' : Int} (_ : 0 < v) (hn : 0 ≤ n') (h1 : n ≤ n') (h2 : v' ≤ v) (_ : 0 < v') : (errF n v).le (errF n' v') := by
  simp only [errF, Frac.le]
  have m1 : n * v' ≤ n' * v := Int.le_trans (Int.mul_le_mul_of_nonneg_right h1 (by omega)) (Int.mul_le_mul_of_nonneg_left h2 hn)
  have e1 : 10000 * (n - v) * v' = 10000 * (n * v') - 10000 * (v * v') := by rw [Int.mul_assoc, Int.sub_mul, Int.mul_sub]
  have e2 : 10000 * (n' - v') * v = 10000 * (n' * v) - 10000 * (v * v') := by rw [Int.mul_assoc, Int.sub_mul, Int.mul_sub, Int.mul_comm v' v]
  rw [e1, e2]
  omega
theorem err_in {v s : Spn} {low high n : Int} (h0 : 1 ≤ v.lo) (h1 : v.lo ≤ low) (h2 : low ≤ high) (h3 : high ≤ v.hi) (hn0 : 0 ≤ s.lo) (hn1 : s.lo ≤ n) (hn2 : n ≤ s.hi) :
    (errR v s).lo ≤ (errF n high).down ∧ (errF n low).up ≤ (errR v s).hi :=
  ⟨Frac.down_mono (a := errF s.lo v.hi) (b := errF n high) (by simp only [errF]; omega) (by simp only [errF]; omega) (errF_le (by omega) (by omega) hn1 h3 (by omega)),
    Frac.up_mono (a := errF n low) (b := errF s.hi v.lo) (by simp only [errF]; omega) (by simp only [errF]; omega) (errF_le (by omega) (by omega) hn2 h1 (by omega))⟩
/-- an error against a most -/
theorem err_less {n v m : Int} : Frac.lt (errF n v) ⟨-m, 1⟩ = true ↔ n * 10000 < v * 10000 - v * m := by
  simp only [errF, Frac.lt, decide_eq_true_eq, Int.mul_one]
  rw [Int.neg_mul, Int.mul_comm m v]
  generalize v * m = p
  omega
theorem err_more {n v m : Int} : Frac.lt ⟨m, 1⟩ (errF n v) = true ↔ v * 10000 + v * m < n * 10000 := by
  simp only [errF, Frac.lt, decide_eq_true_eq, Int.mul_one]
  rw [Int.mul_comm m v]
  generalize v * m = p
  omega
def inB (n low high most : Int) : Bool := !(Frac.lt (errF n high) ⟨-most, 1⟩) && !(Frac.lt ⟨most, 1⟩ (errF n low))
def outB (n low high most : Int) : Bool := Frac.lt (errF n low) ⟨-most, 1⟩ || Frac.lt ⟨most, 1⟩ (errF n high)
theorem pass_in {v s : Spn} {low high n most : Int} (_ : 1 ≤ v.lo) (h1 : v.lo ≤ low) (h2 : low ≤ high) (h3 : high ≤ v.hi) (_ : 0 ≤ s.lo) (hn1 : s.lo ≤ n) (hn2 : n ≤ s.hi) (hm : 0 ≤ most ∧ most ≤ 10000) :
    (passR v s most = 2 ∧ outB n low high most = false) ∨ (passR v s most = 0 ∧ inB n low high most = false) ∨ passR v s most = 1 := by
  have eL : endL v s = errF s.lo v.hi := rfl
  have eH : endH v s = errF s.hi v.lo := rfl
  -- most and the ends, by products
  have a1 : low * (10000 - most) ≤ high * (10000 - most) := Int.mul_le_mul_of_nonneg_right h2 (by omega)
  have a2 : high * (10000 - most) ≤ v.hi * (10000 - most) := Int.mul_le_mul_of_nonneg_right h3 (by omega)
  have a3 : v.lo * (10000 - most) ≤ low * (10000 - most) := Int.mul_le_mul_of_nonneg_right h1 (by omega)
  have b1 : low * (10000 + most) ≤ high * (10000 + most) := Int.mul_le_mul_of_nonneg_right h2 (by omega)
  have b2 : high * (10000 + most) ≤ v.hi * (10000 + most) := Int.mul_le_mul_of_nonneg_right h3 (by omega)
  have b3 : v.lo * (10000 + most) ≤ low * (10000 + most) := Int.mul_le_mul_of_nonneg_right h1 (by omega)
  simp only [Int.mul_sub, Int.mul_add] at a1 a2 a3 b1 b2 b3
  by_cases hy : (endL v s).lt ⟨-most, 1⟩ = false ∧ Frac.lt ⟨most, 1⟩ (endH v s) = false
  · left
    refine ⟨passR_yes hy.1 hy.2, ?_⟩
    have c1 : ¬ (endL v s).lt ⟨-most, 1⟩ = true := by rw [hy.1]; simp
    have c2 : ¬ Frac.lt ⟨most, 1⟩ (endH v s) = true := by rw [hy.2]; simp
    rw [eL, err_less] at c1
    rw [eH, err_more] at c2
    rw [Bool.eq_false_iff]
    intro ho
    unfold outB at ho
    rw [Bool.or_eq_true, err_less, err_more] at ho
    omega
  · right
    have hy2 : (endL v s).lt ⟨-most, 1⟩ = true ∨ Frac.lt ⟨most, 1⟩ (endH v s) = true := by
      cases c : (endL v s).lt ⟨-most, 1⟩
      · cases d : Frac.lt ⟨most, 1⟩ (endH v s)
        · exact absurd ⟨c, d⟩ hy
        · exact .inr rfl
      · exact .inl rfl
    by_cases hz : min (passZ v most) s.hi < max (passA v most) s.lo
    · left
      refine ⟨passR_no hy2 hz, ?_⟩
      rw [Bool.eq_false_iff]
      intro hi
      unfold inB at hi
      simp only [Bool.and_eq_true, Bool.not_eq_true'] at hi
      have c1 : ¬ (errF n high).lt ⟨-most, 1⟩ = true := by rw [hi.1]; simp
      have c2 : ¬ Frac.lt ⟨most, 1⟩ (errF n low) = true := by rw [hi.2]; simp
      rw [err_less] at c1
      rw [err_more] at c2
      have p1 : passA v most ≤ n := passA_le.2 (by omega)
      have p2 : n ≤ passZ v most := le_passZ.2 (by omega)
      omega
    · exact .inr (passR_some hy2 hz)
end Go.Proofs.Ythoefcpeagclbaa
