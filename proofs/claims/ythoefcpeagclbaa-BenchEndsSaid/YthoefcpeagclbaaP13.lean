/- Each end of what a bench tells is the rounding of what is reached; plain, no program in sight. -/
import Derived.Test.YthoefcpeagclbaaP12
namespace Go.Proofs.Ythoefcpeagclbaa
def scX (g z : Int) : Ctch := ⟨⟨0, 0⟩, ⟨g, g⟩, ⟨z, z⟩⟩
def tkX (s f : Int) : Ctch := ⟨⟨s, s⟩, ⟨f, f⟩, ⟨0, 0⟩⟩
def lowB (b : Bnch) : Bnch := { b with off := 0, buoy := ⟨b.buoy.lo, b.buoy.lo⟩, air := ⟨b.air.lo, b.air.lo⟩ }
def highB (b : Bnch) : Bnch := { b with off := 0, buoy := ⟨b.buoy.hi, b.buoy.hi⟩, air := ⟨b.air.hi, b.air.hi⟩ }
theorem bestN_mem {better : Frac → Frac → Bool} {t : Nat → Frac} {f : Frac} : ∀ k, bestN better t f k = f ∨ ∃ i, i < k ∧ bestN better t f k = t i
  | 0 => .inl rfl
  | k + 1 => by
    unfold bestN
    split
    · exact .inr ⟨k, by omega, rfl⟩
    · rcases bestN_mem (better := better) (t := t) (f := f) k with h | ⟨i, hi, h⟩
      · exact .inl h
      · exact .inr ⟨i, by omega, h⟩
theorem ext_mem {n k : Nat} {t : Nat → Mark} {s : Spn} (hk : k < (extL n t s n).length) : extF n t s k = tabAt n t s.lo ∨ extF n t s k = tabAt n t s.hi ∨ ∃ i, i < n ∧ withinB (t i).at_ s.lo s.hi = true ∧ extF n t s k = ⟨(t i).value, 1⟩ := by
  have e : extF n t s k = (extL n t s n)[k] := by simp [extF, List.getD_eq_getElem?_getD, List.getElem?_eq_getElem hk]
  have hmem : extF n t s k ∈ extL n t s n := by rw [e]; exact List.getElem_mem hk
  simp only [extL, insL, List.mem_cons, List.mem_map, List.mem_filter, List.mem_range] at hmem
  rcases hmem with h | h | ⟨i, ⟨hi, hw⟩, h⟩
  · exact .inl h
  · exact .inr (.inl h)
  · exact .inr (.inr ⟨i, hi, hw, h.symm⟩)
theorem ext_has {n i : Nat} {t : Nat → Mark} {s : Spn} (hi : i < n) (hw : withinB (t i).at_ s.lo s.hi = true) : ∃ k, k < (extL n t s n).length ∧ extF n t s k = ⟨(t i).value, 1⟩ := by
  have hmem : (⟨(t i).value, 1⟩ : Frac) ∈ extL n t s n := by
    simp only [extL, insL, List.mem_cons, List.mem_map, List.mem_filter, List.mem_range]
    exact .inr (.inr ⟨i, ⟨hi, hw⟩, rfl⟩)
  obtain ⟨k, hk, e⟩ := List.getElem_of_mem hmem
  exact ⟨k, hk, by simp [extF, List.getD_eq_getElem?_getD, List.getElem?_eq_getElem hk, e]⟩
/-- the densities of a narrower span are no greater, nor less -/
theorem dense_sub {b : Bnch} {x y : Ctch} (hV : Tab b.n b.t) (h0 : (b.t 0).at_ ≤ x.warm.lo) (h1 : x.warm.lo ≤ y.warm.lo) (h2 : y.warm.lo ≤ y.warm.hi) (h3 : y.warm.hi ≤ x.warm.hi) (h4 : x.warm.hi ≤ (b.t (b.n - 1)).at_) :
    (b.thick y).le (b.thick x) ∧ (b.thin x).le (b.thin y) := by
  have d0 := at_dense hV h0 (by omega)
  have da := ext_dense hV h0 (by omega) h4
  obtain ⟨u1, u2, u3⟩ := least_le (t := extF b.n b.t x.warm) d0.u0 (k := (extL b.n b.t x.warm b.n).length) (fun i hi => (da i hi).u0)
  obtain ⟨v1, v2, v3⟩ := le_most (t := extF b.n b.t x.warm) d0.u0 (k := (extL b.n b.t x.warm b.n).length) (fun i hi => (da i hi).u0)
  have key : ∀ z, x.warm.lo ≤ z → z ≤ x.warm.hi → (b.thin x).le (tabAt b.n b.t z) ∧ (tabAt b.n b.t z).le (b.thick x) := fun z p q => by
    have := dense_true (x := x) hV h0 h4 p q
    exact ⟨this.1.2, this.2.2⟩
  have each : ∀ k, k < (extL b.n b.t y.warm b.n).length → (b.thin x).le (extF b.n b.t y.warm k) ∧ (extF b.n b.t y.warm k).le (b.thick x) := fun k hk => by
    rcases ext_mem hk with e | e | ⟨i, hi, hw, e⟩
    · rw [e]; exact key _ h1 (by omega)
    · rw [e]; exact key _ (by omega) h3
    · have hw' : withinB (b.t i).at_ x.warm.lo x.warm.hi = true := by simp only [withinB, decide_eq_true_eq] at *; omega
      obtain ⟨j, hj, e2⟩ := ext_has (s := x.warm) hi hw'
      rw [e, ← e2]
      exact ⟨u3 j hj, v3 j hj⟩
  constructor
  · rcases bestN_mem (better := fun a b => Frac.lt b a) (t := extF b.n b.t y.warm) (f := tabAt b.n b.t y.warm.lo) (extL b.n b.t y.warm b.n).length with e | ⟨i, hi, e⟩
    · unfold Bnch.thick at *; rw [e]; exact (key _ h1 (by omega)).2
    · have := (each i hi).2
      unfold Bnch.thick at *; rw [e]; exact this
  · rcases bestN_mem (better := Frac.lt) (t := extF b.n b.t y.warm) (f := tabAt b.n b.t y.warm.lo) (extL b.n b.t y.warm b.n).length with e | ⟨i, hi, e⟩
    · unfold Bnch.thin at *; rw [e]; exact (key _ h1 (by omega)).1
    · have := (each i hi).1
      unfold Bnch.thin at *; rw [e]; exact this
/-- at which warmth the water is looked at -/
def allL (b : Bnch) (x : Ctch) (k : Nat) : List Int := x.warm.lo :: x.warm.hi :: ((List.range k).filter fun i => withinB (b.t i).at_ x.warm.lo x.warm.hi).map fun i => (b.t i).at_
theorem allL_succ (b : Bnch) (x : Ctch) (k : Nat) : allL b x (k + 1) = if withinB (b.t k).at_ x.warm.lo x.warm.hi then allL b x k ++ [(b.t k).at_] else allL b x k := by
  simp only [allL, List.range_succ, List.filter_append, List.filter_cons, List.filter_nil]
  split <;> simp
theorem allL_length (b : Bnch) (x : Ctch) (k : Nat) : (allL b x k).length ≤ k + 2 := by
  have := List.length_filter_le (fun i => withinB (b.t i).at_ x.warm.lo x.warm.hi) (List.range k)
  simpa [allL] using this
theorem allL_two (b : Bnch) (x : Ctch) (k : Nat) : 2 ≤ (allL b x k).length := by simp [allL]
theorem allL_in {b : Bnch} {x : Ctch} {k : Nat} (h : x.warm.lo ≤ x.warm.hi) {z : Int} (hz : z ∈ allL b x k) : x.warm.lo ≤ z ∧ z ≤ x.warm.hi := by
  simp only [allL, List.mem_cons, List.mem_map, List.mem_filter, List.mem_range] at hz
  rcases hz with rfl | rfl | ⟨i, ⟨-, hw⟩, rfl⟩
  · omega
  · omega
  · simpa [withinB] using hw
/-- the extreme densities are those at one of them -/
theorem thick_at {b : Bnch} {x : Ctch} (hV : Tab b.n b.t) (h0 : (b.t 0).at_ ≤ x.warm.lo) (h1 : x.warm.lo ≤ x.warm.hi) (h4 : x.warm.hi ≤ (b.t (b.n - 1)).at_) (g : Int) : ∃ z ∈ allL b x b.n, (b.thick x).le (b.thick (scX g z)) := by
  have dt : ∀ z, x.warm.lo ≤ z → z ≤ x.warm.hi → (tabAt b.n b.t z).le (b.thick (scX g z)) := fun z p q => (dense_true (x := scX g z) hV (Int.le_trans h0 p) (Int.le_trans q h4) (Int.le_refl z) (Int.le_refl z)).2.2
  have one : ∀ f, f = b.thick x → (f = tabAt b.n b.t x.warm.lo ∨ f = tabAt b.n b.t x.warm.hi ∨ ∃ i, i < b.n ∧ withinB (b.t i).at_ x.warm.lo x.warm.hi = true ∧ f = ⟨(b.t i).value, 1⟩) → ∃ z ∈ allL b x b.n, (b.thick x).le (b.thick (scX g z)) := fun f hf h => by
    rw [← hf]
    rcases h with e | e | ⟨i, hi, hw, e⟩
    · exact ⟨x.warm.lo, by simp [allL], by rw [e]; exact dt _ (Int.le_refl _) h1⟩
    · exact ⟨x.warm.hi, by simp [allL], by rw [e]; exact dt _ h1 (Int.le_refl _)⟩
    · have hw2 := hw
      simp only [withinB, decide_eq_true_eq] at hw2
      refine ⟨(b.t i).at_, ?_, ?_⟩
      · simp only [allL, List.mem_cons, List.mem_map, List.mem_filter, List.mem_range]
        exact .inr (.inr ⟨i, ⟨hi, hw⟩, rfl⟩)
      · obtain ⟨k, hk, e2⟩ := ext_has (t := b.t) (s := (scX g (b.t i).at_).warm) hi (by simp [withinB, scX])
        have d0 := at_dense hV (x := (b.t i).at_) (by omega) (by omega)
        have da := ext_dense hV (s := (scX g (b.t i).at_).warm) (by simp only [scX]; omega) (Int.le_refl _) (by simp only [scX]; omega)
        have := (le_most (t := extF b.n b.t (scX g (b.t i).at_).warm) (f := tabAt b.n b.t (b.t i).at_) d0.u0 (k := (extL b.n b.t (scX g (b.t i).at_).warm b.n).length) (fun i hi => (da i hi).u0)).2.2 k hk
        rw [e, ← e2]; exact this
  rcases bestN_mem (better := fun a b => Frac.lt b a) (t := extF b.n b.t x.warm) (f := tabAt b.n b.t x.warm.lo) (extL b.n b.t x.warm b.n).length with e | ⟨i, hi, e⟩
  · exact one _ rfl (.inl e)
  · refine one _ rfl ?_
    show bestN _ _ _ _ = _ ∨ _
    rcases ext_mem hi with e2 | e2 | ⟨j, hj, hw, e2⟩
    · exact .inl (e.trans e2)
    · exact .inr (.inl (e.trans e2))
    · exact .inr (.inr ⟨j, hj, hw, e.trans e2⟩)
theorem thin_at {b : Bnch} {x : Ctch} (hV : Tab b.n b.t) (h0 : (b.t 0).at_ ≤ x.warm.lo) (h1 : x.warm.lo ≤ x.warm.hi) (h4 : x.warm.hi ≤ (b.t (b.n - 1)).at_) (g : Int) : ∃ z ∈ allL b x b.n, (b.thin (scX g z)).le (b.thin x) := by
  have dt : ∀ z, x.warm.lo ≤ z → z ≤ x.warm.hi → (b.thin (scX g z)).le (tabAt b.n b.t z) := fun z p q => (dense_true (x := scX g z) hV (Int.le_trans h0 p) (Int.le_trans q h4) (Int.le_refl z) (Int.le_refl z)).1.2
  have one : ∀ f, f = b.thin x → (f = tabAt b.n b.t x.warm.lo ∨ f = tabAt b.n b.t x.warm.hi ∨ ∃ i, i < b.n ∧ withinB (b.t i).at_ x.warm.lo x.warm.hi = true ∧ f = ⟨(b.t i).value, 1⟩) → ∃ z ∈ allL b x b.n, (b.thin (scX g z)).le (b.thin x) := fun f hf h => by
    rw [← hf]
    rcases h with e | e | ⟨i, hi, hw, e⟩
    · exact ⟨x.warm.lo, by simp [allL], by rw [e]; exact dt _ (Int.le_refl _) h1⟩
    · exact ⟨x.warm.hi, by simp [allL], by rw [e]; exact dt _ h1 (Int.le_refl _)⟩
    · have hw2 := hw
      simp only [withinB, decide_eq_true_eq] at hw2
      refine ⟨(b.t i).at_, ?_, ?_⟩
      · simp only [allL, List.mem_cons, List.mem_map, List.mem_filter, List.mem_range]
        exact .inr (.inr ⟨i, ⟨hi, hw⟩, rfl⟩)
      · obtain ⟨k, hk, e2⟩ := ext_has (t := b.t) (s := (scX g (b.t i).at_).warm) hi (by simp [withinB, scX])
        have d0 := at_dense hV (x := (b.t i).at_) (by omega) (by omega)
        have da := ext_dense hV (s := (scX g (b.t i).at_).warm) (by simp only [scX]; omega) (Int.le_refl _) (by simp only [scX]; omega)
        have := (least_le (t := extF b.n b.t (scX g (b.t i).at_).warm) (f := tabAt b.n b.t (b.t i).at_) d0.u0 (k := (extL b.n b.t (scX g (b.t i).at_).warm b.n).length) (fun i hi => (da i hi).u0)).2.2 k hk
        rw [e, ← e2]; exact this
  rcases bestN_mem (better := Frac.lt) (t := extF b.n b.t x.warm) (f := tabAt b.n b.t x.warm.lo) (extL b.n b.t x.warm b.n).length with e | ⟨i, hi, e⟩
  · exact one _ rfl (.inl e)
  · refine one _ rfl ?_
    show bestN _ _ _ _ = _ ∨ _
    rcases ext_mem hi with e2 | e2 | ⟨j, hj, hw, e2⟩
    · exact .inl (e.trans e2)
    · exact .inr (.inl (e.trans e2))
    · exact .inr (.inr ⟨j, hj, hw, e.trans e2⟩)
theorem lowB_valid {b : Bnch} (hv : b.valid = true) : (lowB b).valid = true := by
  have ha := valid_all hv
  simp only [Bnch.valid, Bool.and_eq_true, withinB, spanB, decide_eq_true_eq] at hv ⊢
  exact ⟨hv.1, ⟨⟨⟨hv.2.1.1.1, by simp only [lowB]; omega⟩, by simp only [lowB]; omega⟩, by simp only [lowB]; omega⟩⟩
theorem highB_valid {b : Bnch} (hv : b.valid = true) : (highB b).valid = true := by
  have ha := valid_all hv
  simp only [Bnch.valid, Bool.and_eq_true, withinB, spanB, decide_eq_true_eq] at hv ⊢
  exact ⟨hv.1, ⟨⟨⟨hv.2.1.1.1, by simp only [highB]; omega⟩, by simp only [highB]; omega⟩, by simp only [highB]; omega⟩⟩
/-- the least water at one warmth -/
theorem scale_low {b : Bnch} {x : Ctch} (h : (b.waterR x).2 = 0) (hw : b.weighs = true) {z : Int} (hz : x.warm.lo ≤ z ∧ z ≤ x.warm.hi) :
    ((lowB b).waterR (scX (b.light x) z)).2 = 0 ∧ ((lowB b).waterR (scX (b.light x) z)).1.lo = Frac.down ⟨b.light x * (1000000 + b.buoy.lo) * (b.thick (scX (b.light x) z)).under, (b.thick (scX (b.light x) z)).top⟩ + b.air.lo := by
  obtain ⟨hv, hr, hi, hu, -⟩ := waterR_ok h
  have hV := valid_tab hv
  obtain ⟨-, hn1, hn2, ho, hbu, hai⟩ := valid_all hv
  obtain ⟨hl, hs⟩ := scale_in h hw
  simp only [Bnch.scaleOk, spanB, Bool.and_eq_true, decide_eq_true_eq] at hs
  obtain ⟨⟨⟨r1, r2, r3⟩, r4, r5, r6⟩, r7', r8, r9'⟩ := hs
  have r7 : (b.t 0).at_ ≤ x.warm.lo := r7'
  have r9 : x.warm.hi ≤ (b.t (b.n - 1)).at_ := r9'
  have e1 : b.light x = x.fin.lo - x.beg.hi - 2 * b.off := rfl
  have e2 : (lowB b).light (scX (b.light x) z) = b.light x := by simp [Bnch.light, lowB, scX]
  have DS := dense_sub (x := x) (y := scX (b.light x) z) hV r7 hz.1 (Int.le_refl _) hz.2 r9
  have DK : Dense (b.thick x) := bestN_dense (better := fun a b => Frac.lt b a) (t := extF b.n b.t x.warm) (at_dense hV r7 (by omega)) (ext_dense hV r7 r8 r9)
  have DZ : Dense (b.thick (scX (b.light x) z)) := bestN_dense (better := fun a b => Frac.lt b a) (t := extF b.n b.t (scX (b.light x) z).warm) (at_dense hV (by simp only [scX]; omega) (by simp only [scX]; omega)) (ext_dense hV (by simp only [scX]; omega) (Int.le_refl _) (by simp only [scX]; omega))
  have hr' : (lowB b).rightB (scX (b.light x) z) = true := by
    unfold Bnch.rightB
    rw [if_pos (show (lowB b).weighs = true from hw)]
    show (spanB ⟨0, 0⟩ 0 10000000 && spanB ⟨b.light x, b.light x⟩ 0 10000000 && spanB ⟨z, z⟩ (b.t 0).at_ (b.t (b.n - 1)).at_) = true
    simp only [spanB, Bool.and_eq_true, decide_eq_true_eq]
    omega
  have hF : (lowB b).waterF (scX (b.light x) z) = (⟨b.light x * (1000000 + b.buoy.lo) * (b.thick (scX (b.light x) z)).under, (b.thick (scX (b.light x) z)).top⟩, ⟨(lowB b).heavy (scX (b.light x) z) * (1000000 + b.buoy.lo) * (b.thin (scX (b.light x) z)).under, (b.thin (scX (b.light x) z)).top⟩, true) := by
    unfold Bnch.waterF
    rw [if_pos (show (lowB b).weighs = true from hw)]
    unfold Bnch.scaleW
    rw [if_neg (by rw [e2]; omega), e2]
    rfl
  have hu2 : (b.thick x).top ≤ b.light x * (1000000 + b.buoy.lo) * (b.thick x).under := by
    unfold Bnch.waterF at hu
    rw [if_pos hw] at hu
    unfold Bnch.scaleW at hu
    rw [if_neg (by omega)] at hu
    exact hu
  have tK := DK.t0
  have uK := DK.u0
  have tZ := DZ.t0
  have uZ := DZ.u0
  have L := scale_le (g := b.light x) (g' := b.light x) (y := b.buoy.lo) (y' := b.buoy.lo) (d := b.thick x) (d' := b.thick (scX (b.light x) z)) (by omega) (Int.le_refl _) (by omega) (Int.le_refl _) uK (by omega) uZ (by omega) DS.1
  have O := Frac.le_trans (a := ⟨1, 1⟩) (b := ⟨b.light x * (1000000 + b.buoy.lo) * (b.thick x).under, (b.thick x).top⟩) (c := ⟨b.light x * (1000000 + b.buoy.lo) * (b.thick (scX (b.light x) z)).under, (b.thick (scX (b.light x) z)).top⟩) (by decide) (by dsimp only; omega) (by dsimp only; omega) (by simp only [Frac.le]; omega) L
  simp only [Frac.le] at O
  rw [waterR_yes (lowB_valid hv) hr' (by rw [hF]; simp only [Bool.and_eq_true, decide_eq_true_eq]; exact ⟨trivial, by omega⟩), hF]
  exact ⟨rfl, rfl⟩
/-- the greatest water at one warmth -/
theorem scale_high {b : Bnch} {x : Ctch} (h : (b.waterR x).2 = 0) (hw : b.weighs = true) {z : Int} (hz : x.warm.lo ≤ z ∧ z ≤ x.warm.hi) (hh : b.heavy x ≤ 10000000) :
    ((highB b).waterR (scX (b.heavy x) z)).2 = 0 ∧ ((highB b).waterR (scX (b.heavy x) z)).1.hi = Frac.up ⟨b.heavy x * (1000000 + b.buoy.hi) * (b.thin (scX (b.heavy x) z)).under, (b.thin (scX (b.heavy x) z)).top⟩ + b.air.hi := by
  obtain ⟨hv, hr, hi, hu, -⟩ := waterR_ok h
  have hV := valid_tab hv
  obtain ⟨-, hn1, hn2, ho, hbu, hai⟩ := valid_all hv
  obtain ⟨hl, hs⟩ := scale_in h hw
  simp only [Bnch.scaleOk, spanB, Bool.and_eq_true, decide_eq_true_eq] at hs
  obtain ⟨⟨⟨r1, r2, r3⟩, r4, r5, r6⟩, r7', r8, r9'⟩ := hs
  have r7 : (b.t 0).at_ ≤ x.warm.lo := r7'
  have r9 : x.warm.hi ≤ (b.t (b.n - 1)).at_ := r9'
  have e1 : b.light x = x.fin.lo - x.beg.hi - 2 * b.off := rfl
  have e3 : b.heavy x = x.fin.hi - x.beg.lo + 2 * b.off := rfl
  have e2 : (highB b).light (scX (b.heavy x) z) = b.heavy x := by simp [Bnch.light, highB, scX]
  have e4 : (highB b).heavy (scX (b.heavy x) z) = b.heavy x := by simp [Bnch.heavy, highB, scX]
  have DS := dense_sub (x := x) (y := scX (b.heavy x) z) hV r7 hz.1 (Int.le_refl _) hz.2 r9
  have DK : Dense (b.thick x) := bestN_dense (better := fun a b => Frac.lt b a) (t := extF b.n b.t x.warm) (at_dense hV r7 (by omega)) (ext_dense hV r7 r8 r9)
  have DZ : Dense (b.thick (scX (b.heavy x) z)) := bestN_dense (better := fun a b => Frac.lt b a) (t := extF b.n b.t (scX (b.heavy x) z).warm) (at_dense hV (by simp only [scX]; omega) (by simp only [scX]; omega)) (ext_dense hV (by simp only [scX]; omega) (Int.le_refl _) (by simp only [scX]; omega))
  have hr' : (highB b).rightB (scX (b.heavy x) z) = true := by
    unfold Bnch.rightB
    rw [if_pos (show (highB b).weighs = true from hw)]
    show (spanB ⟨0, 0⟩ 0 10000000 && spanB ⟨b.heavy x, b.heavy x⟩ 0 10000000 && spanB ⟨z, z⟩ (b.t 0).at_ (b.t (b.n - 1)).at_) = true
    simp only [spanB, Bool.and_eq_true, decide_eq_true_eq]
    omega
  have hF : (highB b).waterF (scX (b.heavy x) z) = (⟨b.heavy x * (1000000 + b.buoy.hi) * (b.thick (scX (b.heavy x) z)).under, (b.thick (scX (b.heavy x) z)).top⟩, ⟨b.heavy x * (1000000 + b.buoy.hi) * (b.thin (scX (b.heavy x) z)).under, (b.thin (scX (b.heavy x) z)).top⟩, true) := by
    unfold Bnch.waterF
    rw [if_pos (show (highB b).weighs = true from hw)]
    unfold Bnch.scaleW
    rw [if_neg (by rw [e2]; omega), e2, e4]
    rfl
  have hu2 : (b.thick x).top ≤ b.light x * (1000000 + b.buoy.lo) * (b.thick x).under := by
    unfold Bnch.waterF at hu
    rw [if_pos hw] at hu
    unfold Bnch.scaleW at hu
    rw [if_neg (by omega)] at hu
    exact hu
  have tK := DK.t0
  have uK := DK.u0
  have tZ := DZ.t0
  have uZ := DZ.u0
  have L := scale_le (g := b.light x) (g' := b.heavy x) (y := b.buoy.lo) (y' := b.buoy.hi) (d := b.thick x) (d' := b.thick (scX (b.heavy x) z)) (by omega) (by omega) (by omega) (by omega) uK (by omega) uZ (by omega) DS.1
  have O := Frac.le_trans (a := ⟨1, 1⟩) (b := ⟨b.light x * (1000000 + b.buoy.lo) * (b.thick x).under, (b.thick x).top⟩) (c := ⟨b.heavy x * (1000000 + b.buoy.hi) * (b.thick (scX (b.heavy x) z)).under, (b.thick (scX (b.heavy x) z)).top⟩) (by decide) (by dsimp only; omega) (by dsimp only; omega) (by simp only [Frac.le]; omega) L
  simp only [Frac.le] at O
  rw [waterR_yes (highB_valid hv) hr' (by rw [hF]; simp only [Bool.and_eq_true, decide_eq_true_eq]; exact ⟨trivial, by omega⟩), hF]
  exact ⟨rfl, rfl⟩
/-- the ends of the water are its ends at the warmths that are looked at -/
theorem scale_ends {b : Bnch} {x : Ctch} (h : (b.waterR x).2 = 0) (hw : b.weighs = true) :
    (∀ z ∈ allL b x b.n, (b.waterR x).1.lo ≤ ((lowB b).waterR (scX (b.light x) z)).1.lo) ∧ (∃ z ∈ allL b x b.n, ((lowB b).waterR (scX (b.light x) z)).1.lo = (b.waterR x).1.lo) ∧
    (b.heavy x ≤ 10000000 → (∀ z ∈ allL b x b.n, ((highB b).waterR (scX (b.heavy x) z)).1.hi ≤ (b.waterR x).1.hi) ∧ (∃ z ∈ allL b x b.n, ((highB b).waterR (scX (b.heavy x) z)).1.hi = (b.waterR x).1.hi)) := by
  obtain ⟨hv, hr, hi, hu, he⟩ := waterR_ok h
  have hV := valid_tab hv
  obtain ⟨-, hn1, hn2, ho, hbu, hai⟩ := valid_all hv
  obtain ⟨hl, hs⟩ := scale_in h hw
  simp only [Bnch.scaleOk, spanB, Bool.and_eq_true, decide_eq_true_eq] at hs
  obtain ⟨⟨⟨r1, r2, r3⟩, r4, r5, r6⟩, r7', r8, r9'⟩ := hs
  have r7 : (b.t 0).at_ ≤ x.warm.lo := r7'
  have r9 : x.warm.hi ≤ (b.t (b.n - 1)).at_ := r9'
  have e1 : b.light x = x.fin.lo - x.beg.hi - 2 * b.off := rfl
  have e3 : b.heavy x = x.fin.hi - x.beg.lo + 2 * b.off := rfl
  have DK : Dense (b.thick x) := bestN_dense (better := fun a b => Frac.lt b a) (t := extF b.n b.t x.warm) (at_dense hV r7 (by omega)) (ext_dense hV r7 r8 r9)
  have DT : Dense (b.thin x) := bestN_dense (better := Frac.lt) (t := extF b.n b.t x.warm) (at_dense hV r7 (by omega)) (ext_dense hV r7 r8 r9)
  have DZ : ∀ g z, x.warm.lo ≤ z ∧ z ≤ x.warm.hi → Dense (b.thick (scX g z)) := fun g z hz => bestN_dense (better := fun a b => Frac.lt b a) (t := extF b.n b.t (scX g z).warm) (at_dense hV (by simp only [scX]; omega) (by simp only [scX]; omega)) (ext_dense hV (by simp only [scX]; omega) (Int.le_refl _) (by simp only [scX]; omega))
  have DY : ∀ g z, x.warm.lo ≤ z ∧ z ≤ x.warm.hi → Dense (b.thin (scX g z)) := fun g z hz => bestN_dense (better := Frac.lt) (t := extF b.n b.t (scX g z).warm) (at_dense hV (by simp only [scX]; omega) (by simp only [scX]; omega)) (ext_dense hV (by simp only [scX]; omega) (Int.le_refl _) (by simp only [scX]; omega))
  have tK := DK.t0
  have uK := DK.u0
  have tT := DT.t0
  have uT := DT.u0
  have hF : b.waterF x = (⟨b.light x * (1000000 + b.buoy.lo) * (b.thick x).under, (b.thick x).top⟩, ⟨b.heavy x * (1000000 + b.buoy.hi) * (b.thin x).under, (b.thin x).top⟩, true) := by
    unfold Bnch.waterF
    rw [if_pos hw]
    unfold Bnch.scaleW
    rw [if_neg (by omega)]
  have hlo : (b.waterR x).1.lo = Frac.down ⟨b.light x * (1000000 + b.buoy.lo) * (b.thick x).under, (b.thick x).top⟩ + b.air.lo := by rw [he, hF]
  have hhi : (b.waterR x).1.hi = Frac.up ⟨b.heavy x * (1000000 + b.buoy.hi) * (b.thin x).under, (b.thin x).top⟩ + b.air.hi := by rw [he, hF]
  have A : ∀ z ∈ allL b x b.n, (b.waterR x).1.lo ≤ ((lowB b).waterR (scX (b.light x) z)).1.lo := fun z hz => by
    have hz2 := allL_in r8 hz
    rw [(scale_low h hw hz2).2, hlo]
    have d := DZ (b.light x) z hz2
    have t := d.t0
    have u := d.u0
    have DS := dense_sub (x := x) (y := scX (b.light x) z) hV r7 hz2.1 (Int.le_refl _) hz2.2 r9
    have := Frac.down_mono (a := ⟨b.light x * (1000000 + b.buoy.lo) * (b.thick x).under, (b.thick x).top⟩) (b := ⟨b.light x * (1000000 + b.buoy.lo) * (b.thick (scX (b.light x) z)).under, (b.thick (scX (b.light x) z)).top⟩) (by dsimp only; omega) (by dsimp only; omega) (scale_le (by omega) (Int.le_refl _) (by omega) (Int.le_refl _) uK (by omega) u (by omega) DS.1)
    omega
  refine ⟨A, ?_, fun hh => ⟨fun z hz => ?_, ?_⟩⟩
  · obtain ⟨z, hz, hle⟩ := thick_at hV r7 r8 r9 (b.light x)
    refine ⟨z, hz, Int.le_antisymm ?_ (A z hz)⟩
    have hz2 := allL_in r8 hz
    rw [(scale_low h hw hz2).2, hlo]
    have d := DZ (b.light x) z hz2
    have t := d.t0
    have u := d.u0
    have := Frac.down_mono (a := ⟨b.light x * (1000000 + b.buoy.lo) * (b.thick (scX (b.light x) z)).under, (b.thick (scX (b.light x) z)).top⟩) (b := ⟨b.light x * (1000000 + b.buoy.lo) * (b.thick x).under, (b.thick x).top⟩) (by dsimp only; omega) (by dsimp only; omega) (scale_le (by omega) (Int.le_refl _) (by omega) (Int.le_refl _) u (by omega) uK (by omega) hle)
    omega
  · have hz2 := allL_in r8 hz
    rw [(scale_high h hw hz2 hh).2, hhi]
    have d := DY (b.heavy x) z hz2
    have t := d.t0
    have u := d.u0
    have DS := dense_sub (x := x) (y := scX (b.heavy x) z) hV r7 hz2.1 (Int.le_refl _) hz2.2 r9
    have := Frac.up_mono (a := ⟨b.heavy x * (1000000 + b.buoy.hi) * (b.thin (scX (b.heavy x) z)).under, (b.thin (scX (b.heavy x) z)).top⟩) (b := ⟨b.heavy x * (1000000 + b.buoy.hi) * (b.thin x).under, (b.thin x).top⟩) (by dsimp only; omega) (by dsimp only; omega) (scale_le (by omega) (Int.le_refl _) (by omega) (Int.le_refl _) u (by omega) uT (by omega) DS.2)
    omega
  · obtain ⟨z, hz, hle⟩ := thin_at hV r7 r8 r9 (b.heavy x)
    have hz2 := allL_in r8 hz
    refine ⟨z, hz, ?_⟩
    rw [(scale_high h hw hz2 hh).2, hhi]
    have d := DY (b.heavy x) z hz2
    have t := d.t0
    have u := d.u0
    have DS := dense_sub (x := x) (y := scX (b.heavy x) z) hV r7 hz2.1 (Int.le_refl _) hz2.2 r9
    have a1 := Frac.up_mono (a := ⟨b.heavy x * (1000000 + b.buoy.hi) * (b.thin (scX (b.heavy x) z)).under, (b.thin (scX (b.heavy x) z)).top⟩) (b := ⟨b.heavy x * (1000000 + b.buoy.hi) * (b.thin x).under, (b.thin x).top⟩) (by dsimp only; omega) (by dsimp only; omega) (scale_le (by omega) (Int.le_refl _) (by omega) (Int.le_refl _) u (by omega) uT (by omega) DS.2)
    have a2 := Frac.up_mono (a := ⟨b.heavy x * (1000000 + b.buoy.hi) * (b.thin x).under, (b.thin x).top⟩) (b := ⟨b.heavy x * (1000000 + b.buoy.hi) * (b.thin (scX (b.heavy x) z)).under, (b.thin (scX (b.heavy x) z)).top⟩) (by dsimp only; omega) (by dsimp only; omega) (scale_le (by omega) (Int.le_refl _) (by omega) (Int.le_refl _) uT (by omega) u (by omega) hle)
    omega
theorem minus_down {a c : Frac} (ha : 0 < a.under) (hc : 0 < c.under) (n : Int) : (a.minus c n).down = (a.minus c 0).down - n ∧ (a.minus c (-n)).up = (a.minus c 0).up + n := by
  have hu : 0 < a.under * c.under := Int.mul_pos ha hc
  have e : ∀ m : Int, a.top * c.under - c.top * a.under - m * a.under * c.under = (a.top * c.under - c.top * a.under) + (-m) * (a.under * c.under) := fun m => by rw [Int.neg_mul, Int.mul_assoc]; omega
  have e' : ∀ m : Int, -(a.top * c.under - c.top * a.under - m * a.under * c.under) = -(a.top * c.under - c.top * a.under) + m * (a.under * c.under) := fun m => by rw [Int.mul_assoc]; omega
  constructor
  · unfold Frac.down Frac.minus
    dsimp only
    rw [e n, e 0, Int.add_mul_ediv_right _ _ (by omega), Int.add_mul_ediv_right _ _ (by omega)]
    omega
  · unfold Frac.up Frac.minus
    dsimp only
    rw [e' (-n), e' 0, Int.add_mul_ediv_right _ _ (by omega), Int.add_mul_ediv_right _ _ (by omega)]
    omega
theorem minus_one {a c : Frac} (ha : 0 < a.under) (hc : 0 < c.under) {n : Int} (hn : 0 ≤ n) (h : (a.minus c n).under ≤ (a.minus c n).top) : (a.minus c 0).under ≤ (a.minus c 0).top := by
  unfold Frac.minus at *
  dsimp only at *
  have : 0 ≤ n * a.under * c.under := Int.mul_nonneg (Int.mul_nonneg hn (by omega)) (by omega)
  omega
/-- a tank's water, at its ends alone -/
theorem tank_ends {b : Bnch} {x : Ctch} (h : (b.waterR x).2 = 0) (hw : b.weighs = false) :
    (((lowB b).waterR (tkX x.beg.hi x.fin.lo)).2 = 0 ∧ ((lowB b).waterR (tkX x.beg.hi x.fin.lo)).1.lo - 2 * b.off = (b.waterR x).1.lo) ∧
    (((highB b).waterR (tkX x.beg.lo x.fin.hi)).2 = 0 ∧ ((highB b).waterR (tkX x.beg.lo x.fin.hi)).1.hi + 2 * b.off = (b.waterR x).1.hi) := by
  obtain ⟨hv, hr, hi, hu, he⟩ := waterR_ok h
  have hV := valid_tab hv
  have hrise := valid_rise hv hw
  obtain ⟨-, hn1, hn2, ho, hbu, hai⟩ := valid_all hv
  have hwf : ¬ b.weighs = true := by rw [hw]; simp
  unfold Bnch.rightB at hr
  rw [if_neg hwf] at hr
  simp only [Bnch.tankOk, spanB, Bool.and_eq_true, decide_eq_true_eq] at hr
  obtain ⟨⟨r1', r2, r3'⟩, r4', r5, r6'⟩ := hr
  have r1 : (b.t 0).at_ ≤ x.beg.lo := r1'
  have r3 : x.beg.hi ≤ (b.t (b.n - 1)).at_ := r3'
  have r4 : (b.t 0).at_ ≤ x.fin.lo := r4'
  have r6 : x.fin.hi ≤ (b.t (b.n - 1)).at_ := r6'
  have D1 := at_dense hV (x := x.fin.lo) r4 (by omega)
  have D2 := at_dense hV (x := x.beg.hi) (by omega) r3
  have D3 := at_dense hV (x := x.fin.hi) (by omega) r6
  have D4 := at_dense hV (x := x.beg.lo) r1 (by omega)
  have hF : b.waterF x = ((tabAt b.n b.t x.fin.lo).minus (tabAt b.n b.t x.beg.hi) (2 * b.off), (tabAt b.n b.t x.fin.hi).minus (tabAt b.n b.t x.beg.lo) (-2 * b.off), true) := by
    unfold Bnch.waterF
    rw [if_neg hwf]; rfl
  rw [hF] at hu
  have o1 := minus_one D1.u0 D2.u0 (by omega) hu
  have L := minus_le D1.u0 D2.u0 D3.u0 D4.u0 (tab_rise hV hrise r4 r5 r6) (tab_rise hV hrise r1 r2 r3) (Int.le_refl 0)
  have O := Frac.le_trans (a := ⟨1, 1⟩) (by decide) (Int.mul_pos D1.u0 D2.u0) (Int.mul_pos D3.u0 D4.u0) (show Frac.le ⟨1, 1⟩ ((tabAt b.n b.t x.fin.lo).minus (tabAt b.n b.t x.beg.hi) 0) by simp only [Frac.le]; omega) L
  simp only [Frac.le] at O
  have hF1 : (lowB b).waterF (tkX x.beg.hi x.fin.lo) = ((tabAt b.n b.t x.fin.lo).minus (tabAt b.n b.t x.beg.hi) 0, (tabAt b.n b.t x.fin.lo).minus (tabAt b.n b.t x.beg.hi) 0, true) := by
    unfold Bnch.waterF
    rw [if_neg (show ¬ (lowB b).weighs = true from hwf)]; rfl
  have hF2 : (highB b).waterF (tkX x.beg.lo x.fin.hi) = ((tabAt b.n b.t x.fin.hi).minus (tabAt b.n b.t x.beg.lo) 0, (tabAt b.n b.t x.fin.hi).minus (tabAt b.n b.t x.beg.lo) 0, true) := by
    unfold Bnch.waterF
    rw [if_neg (show ¬ (highB b).weighs = true from hwf)]; rfl
  have hr1 : (lowB b).rightB (tkX x.beg.hi x.fin.lo) = true := by
    unfold Bnch.rightB
    rw [if_neg (show ¬ (lowB b).weighs = true from hwf)]
    show (spanB ⟨x.beg.hi, x.beg.hi⟩ (b.t 0).at_ (b.t (b.n - 1)).at_ && spanB ⟨x.fin.lo, x.fin.lo⟩ (b.t 0).at_ (b.t (b.n - 1)).at_) = true
    simp only [spanB, Bool.and_eq_true, decide_eq_true_eq]
    omega
  have hr2 : (highB b).rightB (tkX x.beg.lo x.fin.hi) = true := by
    unfold Bnch.rightB
    rw [if_neg (show ¬ (highB b).weighs = true from hwf)]
    show (spanB ⟨x.beg.lo, x.beg.lo⟩ (b.t 0).at_ (b.t (b.n - 1)).at_ && spanB ⟨x.fin.hi, x.fin.hi⟩ (b.t 0).at_ (b.t (b.n - 1)).at_) = true
    simp only [spanB, Bool.and_eq_true, decide_eq_true_eq]
    omega
  rw [waterR_yes (lowB_valid hv) hr1 (by rw [hF1]; simp only [Bool.and_eq_true, decide_eq_true_eq]; exact ⟨trivial, o1⟩), hF1]
  rw [waterR_yes (highB_valid hv) hr2 (by rw [hF2]; simp only [Bool.and_eq_true, decide_eq_true_eq]; exact ⟨trivial, by omega⟩), hF2, he, hF]
  have m1 := (minus_down D1.u0 D2.u0 (2 * b.off)).1
  have m2 := (minus_down D3.u0 D4.u0 (2 * b.off)).2
  have e2 : -2 * b.off = -(2 * b.off) := by omega
  refine ⟨⟨rfl, ?_⟩, rfl, ?_⟩
  · dsimp only
    rw [m1]; show Frac.down _ + b.air.lo - _ = _; omega
  · dsimp only
    rw [e2, m2]; show Frac.up _ + b.air.hi + _ = _; omega
theorem flow_ends {v s : Spn} (h0 : 0 < s.lo) (h1 : 0 < s.hi) :
    (rnd 0 (v.lo * 3600) s.hi * s.hi ≤ v.lo * 3600 ∧ v.lo * 3600 < (rnd 0 (v.lo * 3600) s.hi + 1) * s.hi) ∧ v.hi * 3600 ≤ rnd 1 (v.hi * 3600) s.lo * s.lo ∧ (rnd 1 (v.hi * 3600) s.lo - 1) * s.lo < v.hi * 3600 :=
  ⟨⟨Frac.down_le (a := ⟨v.lo * 3600, s.hi⟩) h1, Frac.lt_down (a := ⟨v.lo * 3600, s.hi⟩) h1⟩, Frac.le_up (a := ⟨v.hi * 3600, s.lo⟩) h0, Frac.up_lt (a := ⟨v.hi * 3600, s.lo⟩) h0⟩
theorem err_ends {v s : Spn} (h0 : 1 ≤ v.lo) (h1 : v.lo ≤ v.hi) :
    (((errR v s).lo + 10000) * v.hi ≤ 10000 * s.lo ∧ 10000 * s.lo < ((errR v s).lo + 10000 + 1) * v.hi) ∧ 10000 * s.hi ≤ ((errR v s).hi + 10000) * v.lo ∧ ((errR v s).hi + 10000 - 1) * v.lo < 10000 * s.hi := by
  have a1 : (errR v s).lo * v.hi ≤ 10000 * (s.lo - v.hi) := Frac.down_le (a := ⟨10000 * (s.lo - v.hi), v.hi⟩) (show 0 < v.hi by omega)
  have a2 : 10000 * (s.lo - v.hi) < ((errR v s).lo + 1) * v.hi := Frac.lt_down (a := ⟨10000 * (s.lo - v.hi), v.hi⟩) (show 0 < v.hi by omega)
  have a3 : 10000 * (s.hi - v.lo) ≤ (errR v s).hi * v.lo := Frac.le_up (a := ⟨10000 * (s.hi - v.lo), v.lo⟩) (show 0 < v.lo by omega)
  have a4 : ((errR v s).hi - 1) * v.lo < 10000 * (s.hi - v.lo) := Frac.up_lt (a := ⟨10000 * (s.hi - v.lo), v.lo⟩) (show 0 < v.lo by omega)
  generalize (errR v s).lo = A at *
  generalize (errR v s).hi = C at *
  simp only [Int.add_mul, Int.sub_mul, Int.one_mul] at *
  omega
/-- the least, and the greatest, of several numbers -/
def leastR (f : Nat → Int) : Nat → Int
  | 0 => 0
  | k + 1 => if k = 0 ∨ f k < leastR f k then f k else leastR f k
def mostR (f : Nat → Int) : Nat → Int
  | 0 => 0
  | k + 1 => max (mostR f k) (f k)
theorem leastR_mem {f : Nat → Int} : ∀ {k : Nat}, 0 < k → (∀ j, j < k → leastR f k ≤ f j) ∧ ∃ j, j < k ∧ leastR f k = f j
  | k + 1, _ => by
    show (∀ j, j < k + 1 → (if k = 0 ∨ f k < leastR f k then f k else leastR f k) ≤ f j) ∧ ∃ j, j < k + 1 ∧ (if k = 0 ∨ f k < leastR f k then f k else leastR f k) = f j
    by_cases h : k = 0 ∨ f k < leastR f k
    · rw [if_pos h]
      refine ⟨fun j hj => ?_, k, by omega, rfl⟩
      by_cases e : j = k
      · subst e; exact Int.le_refl _
      · have h9 := (leastR_mem (f := f) (k := k) (by omega)).1 j (by omega)
        omega
    · rw [if_neg h]
      obtain ⟨p1, j0, p2, p3⟩ := leastR_mem (f := f) (k := k) (by omega)
      refine ⟨fun j hj => ?_, j0, by omega, p3⟩
      by_cases e : j = k
      · subst e; omega
      · exact p1 j (by omega)
theorem leastR_is {f : Nat → Int} {k : Nat} {v : Int} (h1 : ∀ j, j < k → v ≤ f j) (h2 : ∃ j, j < k ∧ f j = v) : leastR f k = v := by
  obtain ⟨j, hj, e⟩ := h2
  obtain ⟨p1, j0, p2, p3⟩ := leastR_mem (f := f) (k := k) (by omega)
  have := p1 j hj
  have := h1 j0 p2
  omega
theorem mostR_mem {f : Nat → Int} : ∀ {k : Nat}, 0 ≤ mostR f k ∧ (∀ j, j < k → f j ≤ mostR f k) ∧ (mostR f k = 0 ∨ ∃ j, j < k ∧ mostR f k = f j)
  | 0 => ⟨Int.le_refl _, fun j hj => absurd hj (by omega), .inl rfl⟩
  | k + 1 => by
    obtain ⟨p0, p1, p2⟩ := mostR_mem (f := f) (k := k)
    show 0 ≤ max (mostR f k) (f k) ∧ (∀ j, j < k + 1 → f j ≤ max (mostR f k) (f k)) ∧ (max (mostR f k) (f k) = 0 ∨ ∃ j, j < k + 1 ∧ max (mostR f k) (f k) = f j)
    refine ⟨by omega, fun j hj => ?_, ?_⟩
    · by_cases e : j = k
      · subst e; omega
      · have := p1 j (by omega); omega
    · rcases Int.le_total (f k) (mostR f k) with h | h
      · rw [Int.max_eq_left h]
        rcases p2 with p2 | ⟨j, hj, e⟩
        · exact .inl p2
        · exact .inr ⟨j, by omega, e⟩
      · rw [Int.max_eq_right h]; exact .inr ⟨k, by omega, rfl⟩
theorem mostR_is {f : Nat → Int} {k : Nat} {v : Int} (h0 : 0 ≤ v) (h1 : ∀ j, j < k → f j ≤ v) (h2 : ∃ j, j < k ∧ f j = v) : mostR f k = v := by
  obtain ⟨j, hj, e⟩ := h2
  obtain ⟨p0, p1, p2⟩ := mostR_mem (f := f) (k := k)
  have := p1 j hj
  rcases p2 with p2 | ⟨j0, q1, q2⟩
  · omega
  · have := h1 j0 q1
    omega
/-- the ends, as the loop finds them -/
theorem scale_loop {b : Bnch} {x : Ctch} (h : (b.waterR x).2 = 0) (hw : b.weighs = true) (hh : b.heavy x ≤ 10000000) :
    leastR (fun j => ((lowB b).waterR (scX (b.light x) ((allL b x b.n).getD j 0))).1.lo) (allL b x b.n).length = (b.waterR x).1.lo ∧ mostR (fun j => ((highB b).waterR (scX (b.heavy x) ((allL b x b.n).getD j 0))).1.hi) (allL b x b.n).length = (b.waterR x).1.hi := by
  obtain ⟨s1, s2, s3⟩ := scale_ends h hw
  obtain ⟨s3, s4⟩ := s3 hh
  have mem : ∀ j, j < (allL b x b.n).length → (allL b x b.n).getD j 0 ∈ allL b x b.n := fun j hj => by
    rw [List.getD_eq_getElem?_getD, List.getElem?_eq_getElem hj]
    exact List.getElem_mem hj
  have back : ∀ z ∈ allL b x b.n, ∃ j, j < (allL b x b.n).length ∧ (allL b x b.n).getD j 0 = z := fun z hz => by
    obtain ⟨j, hj, e⟩ := List.getElem_of_mem hz
    exact ⟨j, hj, by rw [List.getD_eq_getElem?_getD, List.getElem?_eq_getElem hj]; exact e⟩
  have h1 := (waterR_form b x).resolve_left (fun h9 => by omega)
  have h2 := water_le h
  constructor
  · refine leastR_is (fun j hj => s1 _ (mem j hj)) ?_
    obtain ⟨z, hz, e⟩ := s2
    obtain ⟨j, hj, e2⟩ := back z hz
    exact ⟨j, hj, by rw [e2]; exact e⟩
  · refine mostR_is (by omega) (fun j hj => s3 _ (mem j hj)) ?_
    obtain ⟨z, hz, e⟩ := s4
    obtain ⟨j, hj, e2⟩ := back z hz
    exact ⟨j, hj, by rw [e2]; exact e⟩
end Go.Proofs.Ythoefcpeagclbaa
