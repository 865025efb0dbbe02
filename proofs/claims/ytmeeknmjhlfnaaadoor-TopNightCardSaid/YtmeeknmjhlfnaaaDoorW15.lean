/- Leak of the program: what it returns. -/
import Derived.Test.YtmeeknmjhlfnaaaDoorW14
namespace Go.Proofs.YtmeeknmjhlfnaaaDoor
open Go.RowKit
def Tst.leakErr (t : Tst) (k : Int) : Int := if t.valid then (if withinB k 0 ((t.n : Int) - 1) then (if t.fitB then (if hasB (verd t).can k.toNat then 0 else 4) else 6) else 2) else 1
def Tst.leakR (t : Tst) (k : Int) : Spn := if t.leakErr k = 0 then (verd t).leaks k.toNat else ⟨0, 0⟩
theorem err_fit {t : Tst} (hg : gL t (2 ^ t.n) = []) : t.fitB = false := by unfold Tst.fitB; rw [hg]; rfl
theorem err_fit1 {t : Tst} (hg : gL t (2 ^ t.n) ≠ []) : t.fitB = true := by unfold Tst.fitB; simpa [List.isEmpty_iff] using hg
theorem within_no {a b c : Int} (h : ¬ (b ≤ a ∧ a ≤ c)) : withinB a b c = false := by unfold withinB; simpa using h
theorem within_yes {a b c : Int} (h : b ≤ a ∧ a ≤ c) : withinB a b c = true := by unfold withinB; simpa using h
theorem ret_sp {a b : Spn} {e f : Int} (h : a = b) (h' : e = f) : Ending.returned (.tuple #[.agg #[.int .i64 a.lo, .int .i64 a.hi], .int .i64 e]) = .returned (.tuple #[.agg #[.int .i64 b.lo, .int .i64 b.hi], .int .i64 f]) := by rw [h, h']
set_option maxRecDepth 100000 in
set_option maxHeartbeats 2000000 in
theorem leak_any (t : Tst) (oa : Option Addr) (ca : Nat) (ob : Option Addr) (cb : Nat) (k : Int) (w : World) (hn : t.n ≤ 1000000) (hm : t.m ≤ 1000000) (hU : SpnsAt w oa t.n t.u) (hS : StpsAt w ob t.m t.s) (hT : TabAt 1 Lib.deBruijn64tab w) (h1 : 1 < w.heap.size) :
    Calls Tryd.prog 10 #[t.val oa ca ob cb, .int .i64 k] w fun e w' => e = .returned (.tuple #[.agg #[.int .i64 (t.leakR k).lo, .int .i64 (t.leakR k).hi], .int .i64 (t.leakErr k)]) ∧ Below w.heap.size w w' := by
  have HU := Lib.hid hU
  have HS := Lib.hid hS
  have HT := Lib.hid hT
  clear hU hS hT
  go_enter Tryd.func10, Tryd.ntmps10
  go_wp2_with fail
  have zt0 := (Box.new (g := w.heap.size) #[.slice oa t.n ca, .int .i64 t.leaks, .int .i64 t.least, .slice ob t.m cb] 25 w rfl).old (.cells #[.int .i64 0, .int .i64 0] 34)
  have zr0 := Box.new (g := w.heap.size + 1) #[.int .i64 0, .int .i64 0] 34 (w.alloc (.cells #[.slice oa t.n ca, .int .i64 t.leaks, .int .i64 t.least, .slice ob t.m cb] 25)) (by simp)
  have hb0 : Below w.heap.size w ((w.alloc (.cells #[.slice oa t.n ca, .int .i64 t.leaks, .int .i64 t.least, .slice ob t.m cb] 25)).alloc (.cells #[.int .i64 0, .int .i64 0] 34)) := (by repeat' (first | exact Below.refl _ _ | assumption | apply below_drewN | apply Below.drew | (refine Below.alloc ?_ ?_ _) | (refine Below.setCell ?_ ?_ _) | (simp; done) | (simp; omega) | omega))
  obtain ⟨W0, hW0⟩ : ∃ X, X = ((w.alloc (.cells #[.slice oa t.n ca, .int .i64 t.leaks, .int .i64 t.least, .slice ob t.m cb] 25)).alloc (.cells #[.int .i64 0, .int .i64 0] 34)) := ⟨_, rfl⟩
  rw [← hW0] at zt0 zr0 hb0 ⊢
  clear hW0
  refine (judge_any t oa ca ob cb _ hn hm (HU.out.mono hb0) (HS.out.mono hb0) (fun j hj => (hb0.cell (p := ⟨1, j, none⟩) h1).trans (HT.out j hj)) (Nat.lt_of_lt_of_le h1 hb0.size)).mono ?_
  rintro e w1 ⟨hb1, hor⟩
  have hbw := hb0.trans (hb1.mono hb0.size)
  have zr := zr0.below hb1
  have zt := zt0.below hb1
  have q0 := zt.cell 0 (v := .slice oa t.n ca) rfl
  have q1 := zt.lt
  have r0 := zr.cell 0 (v := .int .i64 0) rfl
  have r1 := zr.cell 1 (v := .int .i64 0) rfl
  have r2 := zr.frozen 0
  have r3 := zr.frozen 1
  have r4 := zr.lt
  clear zt0 zr0 hb0 hb1
  by_cases hin : 0 ≤ k ∧ k ≤ (t.n : Int) - 1
  · obtain ⟨i, rfl⟩ : ∃ i : Nat, k = i := ⟨k.toNat, by omega⟩
    have hw9 := Lib.hid (within_yes hin)
    have hw9 := hw9.out
    rcases hor with ⟨hv, rfl⟩ | ⟨hv, hg, rfl⟩ | ⟨hv, hg, gv, rfl, hz⟩
    · have E := Lib.hid (show t.leakErr i = 1 by unfold Tst.leakErr; rw [hv]; rfl)
      clear hv hw9
      go_wp2_with fail
      have PQ := put2 r0 r1 (.int .i64 (0)) (.int .i64 (0))
      refine bodyPost_ret (v := .tuple #[.agg #[.int .i64 (0), .int .i64 (0)], .int .i64 1]) (by simp [results, Tryd.results10, go_sem, PQ.1, PQ.2]) rfl ⟨?_, (hbw.setCell (by dsimp only; omega) _).setCell (by dsimp only; omega) _⟩
      rw [show t.leakR (i : Int) = ⟨0, 0⟩ by unfold Tst.leakR; rw [E.out]; rfl, E.out]
    · have E := Lib.hid (show t.leakErr i = 6 by unfold Tst.leakErr; rw [hv, hw9, err_fit hg]; rfl)
      have hl1 := (Tst.ok hv).n1
      have hl2 := (Tst.ok hv).n2
      clear hv hg
      go_wp2_with (go_at_call 19; refine (within_any _ _ _ _).mono ?_; rintro e w' ⟨rfl, rfl⟩)
      have PQ := put2 r0 r1 (.int .i64 (0)) (.int .i64 (0))
      refine bodyPost_ret (v := .tuple #[.agg #[.int .i64 (0), .int .i64 (0)], .int .i64 6]) (by simp [results, Tryd.results10, go_sem, PQ.1, PQ.2]) rfl ⟨?_, (hbw.setCell (by dsimp only; omega) _).setCell (by dsimp only; omega) _⟩
      rw [show t.leakR (i : Int) = ⟨0, 0⟩ by unfold Tst.leakR; rw [E.out]; rfl, E.out]
    · have hbd := verd_bd hv
      have hl1 := (Tst.ok hv).n1
      have hl2 := (Tst.ok hv).n2
      have c2 := hz.cell 2 (v := .int .i64 ((verd t).can : Nat)) rfl
      have c3 := hz.cell (4 + i * 2) (vd_lo _ _ _ _ _ (by omega))
      have c4 := hz.cell (4 + i * 2 + 1) (vd_hi _ _ _ _ _ (by omega))
      have hl := hz.lt
      have hbit := bit_zero (s := ((verd t).can : Int)) (i := i) (by omega) (by have := hbd.c; simpa using this)
      simp only [Int.toNat_natCast] at hbit
      have hf := err_fit1 hg
      cases hh : hasB (verd t).can i
      · have E := Lib.hid (show t.leakErr i = 4 by unfold Tst.leakErr; rw [hv, hw9, hf, Int.toNat_natCast, hh]; rfl)
        rw [hh] at hbit
        have hbit : (bits BinOp.and IntKind.i64 (((verd t).can : Int) / 2 ^ i) 1 == 0) = true := hbit
        clear hv hg hf hh hbd hz
        go_wp2_with (go_at_call 19; refine (within_any _ _ _ _).mono ?_; rintro e w' ⟨rfl, rfl⟩)
        have PQ := put2 r0 r1 (.int .i64 (0)) (.int .i64 (0))
        refine bodyPost_ret (v := .tuple #[.agg #[.int .i64 (0), .int .i64 (0)], .int .i64 4]) (by simp [results, Tryd.results10, go_sem, PQ.1, PQ.2]) rfl ⟨?_, (hbw.setCell (by dsimp only; omega) _).setCell (by dsimp only; omega) _⟩
        rw [show t.leakR (i : Int) = ⟨0, 0⟩ by unfold Tst.leakR; rw [E.out]; rfl, E.out]
      · have E := Lib.hid (show t.leakErr i = 0 by unfold Tst.leakErr; rw [hv, hw9, hf, Int.toNat_natCast, hh]; rfl)
        have ER := Lib.hid (show t.leakR i = (verd t).leaks i by unfold Tst.leakR; rw [E.out]; rfl)
        rw [hh] at hbit
        have hbit : (bits BinOp.and IntKind.i64 (((verd t).can : Int) / 2 ^ i) 1 == 0) = false := hbit
        obtain ⟨sp, hsp⟩ : ∃ s, s = (verd t).leaks i := ⟨_, rfl⟩
        rw [← hsp] at c3 c4 ER
        clear hv hg hf hh hbd hz hsp
        go_wp2_with (go_at_call 19; refine (within_any _ _ _ _).mono ?_; rintro e w' ⟨rfl, rfl⟩)
        have PQ := put2 r0 r1 (.int .i64 (sp.lo)) (.int .i64 (sp.hi))
        refine bodyPost_ret (v := .tuple #[.agg #[.int .i64 (sp.lo), .int .i64 (sp.hi)], .int .i64 0]) (by simp [results, Tryd.results10, go_sem, PQ.1, PQ.2]) rfl ⟨?_, (hbw.setCell (by dsimp only; omega) _).setCell (by dsimp only; omega) _⟩
        rw [ER.out, E.out]
  · have hw9 := within_no hin
    have hd := decide_eq_false hin
    rcases hor with ⟨hv, rfl⟩ | ⟨hv, hg, rfl⟩ | ⟨hv, hg, gv, rfl, hz⟩
    · have E := Lib.hid (show t.leakErr k = 1 by unfold Tst.leakErr; rw [hv]; rfl)
      clear hv hw9 hd hin
      go_wp2_with fail
      have PQ := put2 r0 r1 (.int .i64 (0)) (.int .i64 (0))
      refine bodyPost_ret (v := .tuple #[.agg #[.int .i64 (0), .int .i64 (0)], .int .i64 1]) (by simp [results, Tryd.results10, go_sem, PQ.1, PQ.2]) rfl ⟨?_, (hbw.setCell (by dsimp only; omega) _).setCell (by dsimp only; omega) _⟩
      rw [show t.leakR k = ⟨0, 0⟩ by unfold Tst.leakR; rw [E.out]; rfl, E.out]
    · have E := Lib.hid (show t.leakErr k = 2 by unfold Tst.leakErr; rw [hv, hw9]; rfl)
      have hl1 := (Tst.ok hv).n1
      have hl2 := (Tst.ok hv).n2
      clear hv hg hd hin 
      go_wp2_with (go_at_call 19; refine (within_any _ _ _ _).mono ?_; rintro e w' ⟨rfl, rfl⟩)
      have PQ := put2 r0 r1 (.int .i64 (0)) (.int .i64 (0))
      refine bodyPost_ret (v := .tuple #[.agg #[.int .i64 (0), .int .i64 (0)], .int .i64 2]) (by simp [results, Tryd.results10, go_sem, PQ.1, PQ.2]) rfl ⟨?_, (hbw.setCell (by dsimp only; omega) _).setCell (by dsimp only; omega) _⟩
      rw [show t.leakR k = ⟨0, 0⟩ by unfold Tst.leakR; rw [E.out]; rfl, E.out]
    · have E := Lib.hid (show t.leakErr k = 2 by unfold Tst.leakErr; rw [hv, hw9]; rfl)
      have hl1 := (Tst.ok hv).n1
      have hl2 := (Tst.ok hv).n2
      clear hv hg hd hin hz
      go_wp2_with (go_at_call 19; refine (within_any _ _ _ _).mono ?_; rintro e w' ⟨rfl, rfl⟩)
      have PQ := put2 r0 r1 (.int .i64 (0)) (.int .i64 (0))
      refine bodyPost_ret (v := .tuple #[.agg #[.int .i64 (0), .int .i64 (0)], .int .i64 2]) (by simp [results, Tryd.results10, go_sem, PQ.1, PQ.2]) rfl ⟨?_, (hbw.setCell (by dsimp only; omega) _).setCell (by dsimp only; omega) _⟩
      rw [show t.leakR k = ⟨0, 0⟩ by unfold Tst.leakR; rw [E.out]; rfl, E.out]
end Go.Proofs.YtmeeknmjhlfnaaaDoor
