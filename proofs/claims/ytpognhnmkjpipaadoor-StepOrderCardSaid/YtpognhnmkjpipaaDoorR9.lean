/- The document's side: Leak. -/
import Derived.Test.YtpognhnmkjpipaaDoorR8
import Derived.Test.YtpognhnmkjpipaaDoorW15
namespace Go.Proofs.YtpognhnmkjpipaaDoor
open Go.RowKit
/-- the boxes of Leak -/
structure VI (t : Tst) (oa : Option Addr) (ca : Nat) (ob : Option Addr) (cb : Nat) (w W : World) : Prop where
  low : Below w.heap.size w W
  hT : TB t oa ca ob cb w.heap.size W
  hR : Box (w.heap.size + 1) #[.int .i64 0, .int .i64 0] 37 W
theorem VI.on {t : Tst} {oa : Option Addr} {ca : Nat} {ob : Option Addr} {cb : Nat} {w : World} {A B : World} (h : VI t oa ca ob cb w A) (hb : Below A.heap.size A B) : VI t oa ca ob cb w B :=
  ⟨h.low.trans (hb.mono h.low.size), h.hT.below hb, h.hR.below hb⟩
set_option maxRecDepth 100000 in
set_option maxHeartbeats 8000000 in
theorem docLeak_any (t : Tst) (oa : Option Addr) (ca : Nat) (ob : Option Addr) (cb : Nat) (x : Int) (w : World) (hn : t.n ≤ 1000000) (hm : t.m ≤ 1000000) (hU : SpnsAt w oa t.n t.u) (hS : StpsAt w ob t.m t.s) :
    Calls Tryd.prog 19 #[t.val oa ca ob cb, .int .i64 x] w fun e w' => e = .returned (.tuple #[.agg #[.int .i64 (docLeak t x).lo, .int .i64 (docLeak t x).hi], .int .i64 (docLeakErr t x)]) ∧ Below w.heap.size w w' := by
  have HU := Lib.hid hU
  have HS := Lib.hid hS
  clear hU hS
  go_enter Tryd.func19, Tryd.ntmps19
  go_wp2_with fail
  have hI0 : VI t oa ca ob cb w ((w.alloc (.cells #[.slice oa t.n ca, .int .i64 t.leaks, .int .i64 t.least, .slice ob t.m cb] 25)).alloc (.cells #[.int .i64 0, .int .i64 0] 37)) := ⟨(by repeat' (first | exact Below.refl _ _ | assumption | apply below_drewN | apply Below.drew | (refine Below.alloc ?_ ?_ _) | (refine Below.setCell ?_ ?_ _) | (simp; done) | (simp; omega) | omega)), (Box.new _ 25 w rfl).old _, Box.new _ 37 _ (by simp)⟩
  obtain ⟨W, hW⟩ : ∃ X, X = ((w.alloc (.cells #[.slice oa t.n ca, .int .i64 t.leaks, .int .i64 t.least, .slice ob t.m cb] 25)).alloc (.cells #[.int .i64 0, .int .i64 0] 37)) := ⟨_, rfl⟩
  rw [← hW] at hI0 ⊢
  clear hW
  refine (refTest_any t oa ca ob cb _ hn hm (HU.out.mono hI0.low) (HS.out.mono hI0.low)).mono ?_
  rintro e w1 ⟨rfl, hb1⟩
  have I1 := Lib.hid (hI0.on hb1)
  clear hI0 hb1
  cases hv : t.valid
  · have E := Lib.hid (show docLeakErr t x = 1 by unfold docLeakErr; rw [hv]; rfl)
    clear hv
    have r0 := I1.out.hR.cell 0 (v := .int .i64 0) rfl
    have r1 := I1.out.hR.cell 1 (v := .int .i64 0) rfl
    have r2 := I1.out.hR.lt
    have r3 := I1.out.hR.frozen 0
    have r4 := I1.out.hR.frozen 1
    go_wp2_with fail
    have PQ := put2 r0 r1 (.int .i64 (0)) (.int .i64 (0))
    refine bodyPost_ret (v := .tuple #[.agg #[.int .i64 (0), .int .i64 (0)], .int .i64 1]) (by simp [results, Tryd.results19, go_sem, PQ.1, PQ.2]) rfl ⟨?_, (I1.out.low.setCell (by dsimp only; omega) _).setCell (by dsimp only; omega) _⟩
    rw [show docLeak t x = ⟨0, 0⟩ by unfold docLeak; rw [E.out]; rfl, E.out]
  · have HK := Lib.hid (Tst.ok hv)
    have hn2 := HK.out.n2
    have hn1 := HK.out.n1
    obtain ⟨c0, c1, c2, c3, c4⟩ := TB.cells I1.out.hT
    go_wp2_with fail
    refine (in_any _ _ _ _).mono ?_
    rintro e w9 ⟨rfl, rfl⟩
    by_cases hin : 0 ≤ x ∧ x ≤ (t.n : Int) - 1
    · obtain ⟨i, rfl⟩ : ∃ i : Nat, x = i := ⟨x.toNat, by omega⟩
      have hw9 := within_yes hin
      rw [hw9]
      clear c0 c1 c2 c3 c4
      skip
      have HK := Lib.hid (Tst.ok hv)
      obtain ⟨c0, c1, c2, c3, c4⟩ := TB.cells I1.out.hT
      go_wp2_with fail
      refine (fits_any t HK.out oa ca ob cb _ (HU.out.mono I1.out.low) (HS.out.mono I1.out.low)).mono ?_
      rintro e w2 ⟨rfl, hb2⟩
      have I2 := Lib.hid (I1.out.on hb2)
      clear hb2 c0 c1 c2 c3 c4
      obtain ⟨c0, c1, c2, c3, c4⟩ := TB.cells I2.out.hT
      cases hf : fitsB t
      · have E := Lib.hid (show docLeakErr t i = 6 by unfold docLeakErr; rw [hv, hw9, hf]; rfl)
        clear hv hf hw9
        have r0 := I2.out.hR.cell 0 (v := .int .i64 0) rfl
        have r1 := I2.out.hR.cell 1 (v := .int .i64 0) rfl
        have r2 := I2.out.hR.lt
        have r3 := I2.out.hR.frozen 0
        have r4 := I2.out.hR.frozen 1
        go_wp2_with fail
        have PQ := put2 r0 r1 (.int .i64 (0)) (.int .i64 (0))
        refine bodyPost_ret (v := .tuple #[.agg #[.int .i64 (0), .int .i64 (0)], .int .i64 6]) (by simp [results, Tryd.results19, go_sem, PQ.1, PQ.2]) rfl ⟨?_, (I2.out.low.setCell (by dsimp only; omega) _).setCell (by dsimp only; omega) _⟩
        rw [show docLeak t (i : Int) = ⟨0, 0⟩ by unfold docLeak; rw [E.out]; rfl, E.out]
      · have EE := Lib.hid (show docLeakErr t i = if (leakO t i).isSome then 0 else 4 by unfold docLeakErr; rw [hv, hw9, hf, Int.toNat_natCast]; rfl)
        clear hv hf hw9
        go_wp2_with fail
        refine (leakRef_any t HK.out oa ca ob cb i (by omega) _ (HU.out.mono I2.out.low) (HS.out.mono I2.out.low)).mono ?_
        rintro e w5 ⟨rfl, hb5⟩
        have I5 := Lib.hid ((I2.out.on hb5).on (below_alloc1 w5 (.cells #[.int .i64 (spOf (leakO t i)).lo, .int .i64 (spOf (leakO t i)).hi] 37)))
        have hz5 := (Box.new (g := w5.heap.size) #[.int .i64 (spOf (leakO t i)).lo, .int .i64 (spOf (leakO t i)).hi] 37 w5 rfl)
        have hne : ¬ w.heap.size + 1 = w5.heap.size := by have := (I2.out.on hb5).hR.lt; omega
        have o0 := hz5.cell 0 rfl
        have o1 := hz5.cell 1 rfl
        clear hb5 c0 c1 c2 c3 c4
        cases ho : (leakO t i).isSome
        · have E := Lib.hid (show docLeakErr t i = 4 by rw [EE.out, ho]; rfl)
          clear ho o0 o1 hz5
          have r0 := I5.out.hR.cell 0 (v := .int .i64 0) rfl
          have r1 := I5.out.hR.cell 1 (v := .int .i64 0) rfl
          have r2 := I5.out.hR.lt
          have r3 := I5.out.hR.frozen 0
          have r4 := I5.out.hR.frozen 1
          go_wp2_with fail
          have PQ := put2 r0 r1 (.int .i64 (0)) (.int .i64 (0))
          refine bodyPost_ret (v := .tuple #[.agg #[.int .i64 (0), .int .i64 (0)], .int .i64 4]) (by simp [results, Tryd.results19, go_sem, PQ.1, PQ.2]) rfl ⟨?_, (I5.out.low.setCell (by dsimp only; omega) _).setCell (by dsimp only; omega) _⟩
          rw [show docLeak t (i : Int) = ⟨0, 0⟩ by unfold docLeak; rw [E.out]; rfl, E.out]
        · have E := Lib.hid (show docLeakErr t i = 0 by rw [EE.out, ho]; rfl)
          have ER := Lib.hid (show docLeak t i = spOf (leakO t i) by unfold docLeak; rw [E.out]; rfl)
          obtain ⟨sp, hsp⟩ : ∃ s, s = spOf (leakO t i) := ⟨_, rfl⟩
          rw [← hsp] at ER o0 o1 I5 ⊢
          clear ho hsp hz5
          have r0 := I5.out.hR.cell 0 (v := .int .i64 0) rfl
          have r1 := I5.out.hR.cell 1 (v := .int .i64 0) rfl
          have r2 := I5.out.hR.lt
          have r3 := I5.out.hR.frozen 0
          have r4 := I5.out.hR.frozen 1
          go_wp2_with fail
          have PQ := put2 r0 r1 (.int .i64 sp.lo) (.int .i64 sp.hi)
          refine bodyPost_ret (v := .tuple #[.agg #[.int .i64 sp.lo, .int .i64 sp.hi], .int .i64 0]) (by simp [results, Tryd.results19, go_sem, PQ.1, PQ.2]) rfl ⟨?_, (I5.out.low.setCell (by dsimp only; omega) _).setCell (by dsimp only; omega) _⟩
          rw [ER.out, E.out]
    · have hw9 := within_no hin
      have E := Lib.hid (show docLeakErr t x = 2 by unfold docLeakErr; rw [hv, hw9]; rfl)
      rw [hw9]
      clear hv hin hw9
      have r0 := I1.out.hR.cell 0 (v := .int .i64 0) rfl
      have r1 := I1.out.hR.cell 1 (v := .int .i64 0) rfl
      have r2 := I1.out.hR.lt
      have r3 := I1.out.hR.frozen 0
      have r4 := I1.out.hR.frozen 1
      go_wp2_with fail
      have PQ := put2 r0 r1 (.int .i64 (0)) (.int .i64 (0))
      refine bodyPost_ret (v := .tuple #[.agg #[.int .i64 (0), .int .i64 (0)], .int .i64 2]) (by simp [results, Tryd.results19, go_sem, PQ.1, PQ.2]) rfl ⟨?_, (I1.out.low.setCell (by dsimp only; omega) _).setCell (by dsimp only; omega) _⟩
      rw [show docLeak t x = ⟨0, 0⟩ by unfold docLeak; rw [E.out]; rfl, E.out]
end Go.Proofs.YtpognhnmkjpipaaDoor
