/- Suspects, Sound and Leak of the program: what they return. -/
import Derived.Test.YtmeeknmjhlfnaaaDoorW13
import Derived.Deep.QuietTactic
namespace Go.Proofs.YtmeeknmjhlfnaaaDoor
open Go.RowKit
def Tst.fitB (t : Tst) : Bool := !(gL t (2 ^ t.n)).isEmpty
def Tst.err (t : Tst) : Int := if t.valid then (if t.fitB then 0 else 6) else 1
def Tst.canR (t : Tst) : Nat := if t.err = 0 then (verd t).can else 0
def Tst.surelyR (t : Tst) : Nat := if t.err = 0 then (verd t).surely else 0
def Tst.soundR (t : Tst) : Bool := if t.err = 0 then (verd t).sound else false
theorem err_no {t : Tst} (h : t.valid = false) : t.err = 1 := by unfold Tst.err; rw [h]; rfl
theorem err_six {t : Tst} (h : t.valid = true) (hg : gL t (2 ^ t.n) = []) : t.err = 6 := by unfold Tst.err Tst.fitB; rw [h, hg]; rfl
theorem err_zero {t : Tst} (h : t.valid = true) (hg : gL t (2 ^ t.n) ≠ []) : t.err = 0 := by
  unfold Tst.err Tst.fitB
  rw [h, if_pos rfl, if_pos]
  simpa [List.isEmpty_iff] using hg
theorem verd_bd {t : Tst} (h : t.valid = true) : (verd t).Bd := by
  have hk := Tst.ok h
  have h10 := pow_ten hk.n2
  refine verdF_bd hk.n2 fun g hg => ?_
  simp only [gL, List.mem_filterMap, List.mem_range] at hg
  obtain ⟨x, hx, hm⟩ := hg
  cases h9 : gR t x with
  | none => rw [h9] at hm; cases hm
  | some p => rw [h9] at hm; cases hm; dsimp only; omega
set_option maxHeartbeats 1000000 in
theorem suspects_any (t : Tst) (oa : Option Addr) (ca : Nat) (ob : Option Addr) (cb : Nat) (w : World) (hn : t.n ≤ 1000000) (hm : t.m ≤ 1000000) (hU : SpnsAt w oa t.n t.u) (hS : StpsAt w ob t.m t.s) (hT : TabAt 1 Lib.deBruijn64tab w) (h1 : 1 < w.heap.size) :
    Calls Tryd.prog 6 #[t.val oa ca ob cb] w fun e w' => e = .returned (.tuple #[.int .i64 (t.canR : Nat), .int .i64 (t.surelyR : Nat), .int .i64 t.err]) ∧ Below w.heap.size w w' := by
  have HU := Lib.hid hU
  have HS := Lib.hid hS
  have HT := Lib.hid hT
  clear hU hS hT
  go_enter Tryd.func6, Tryd.ntmps6
  go_wp2_with fail
  have hb0 := below_alloc1 w (.cells #[.slice oa t.n ca, .int .i64 t.leaks, .int .i64 t.least, .slice ob t.m cb] 25)
  refine (judge_any t oa ca ob cb _ hn hm (HU.out.mono hb0) (HS.out.mono hb0) (fun j hj => (hb0.cell (p := ⟨1, j, none⟩) h1).trans (HT.out j hj)) (Nat.lt_of_lt_of_le h1 hb0.size)).mono ?_
  rintro e w1 ⟨hb1, hor⟩
  have hbw := hb0.trans (hb1.mono hb0.size)
  rcases hor with ⟨hv, rfl⟩ | ⟨hv, hg, rfl⟩ | ⟨hv, hg, gv, rfl, hz⟩
  · have E := Lib.hid (err_no hv)
    clear hv
    go_wp2_with fail
    go_ret3
    exact ⟨by unfold Tst.canR Tst.surelyR; rw [E.out]; rfl, hbw⟩
  · have E := Lib.hid (err_six hv hg)
    clear hv hg
    go_wp2_with fail
    go_ret3
    exact ⟨by unfold Tst.canR Tst.surelyR; rw [E.out]; rfl, hbw⟩
  · have E := Lib.hid (err_zero hv hg)
    clear hv hg
    have c2 := hz.cell 2 (v := .int .i64 ((verd t).can : Nat)) rfl
    have c3 := hz.cell 3 (v := .int .i64 ((verd t).surely : Nat)) rfl
    have hl := hz.lt
    clear hz
    go_wp2_with fail
    go_big_quiet (fail)
    go_wp2_with fail
    go_ret3
    exact ⟨by unfold Tst.canR Tst.surelyR; rw [E.out]; rfl, below_drewN hbw _⟩
set_option maxHeartbeats 1000000 in
theorem sound_any (t : Tst) (oa : Option Addr) (ca : Nat) (ob : Option Addr) (cb : Nat) (w : World) (hn : t.n ≤ 1000000) (hm : t.m ≤ 1000000) (hU : SpnsAt w oa t.n t.u) (hS : StpsAt w ob t.m t.s) (hT : TabAt 1 Lib.deBruijn64tab w) (h1 : 1 < w.heap.size) :
    Calls Tryd.prog 7 #[t.val oa ca ob cb] w fun e w' => e = .returned (.tuple #[.bool t.soundR, .int .i64 t.err]) ∧ Below w.heap.size w w' := by
  have HU := Lib.hid hU
  have HS := Lib.hid hS
  have HT := Lib.hid hT
  clear hU hS hT
  go_enter Tryd.func7, Tryd.ntmps7
  go_wp2_with fail
  have hb0 := below_alloc1 w (.cells #[.slice oa t.n ca, .int .i64 t.leaks, .int .i64 t.least, .slice ob t.m cb] 25)
  refine (judge_any t oa ca ob cb _ hn hm (HU.out.mono hb0) (HS.out.mono hb0) (fun j hj => (hb0.cell (p := ⟨1, j, none⟩) h1).trans (HT.out j hj)) (Nat.lt_of_lt_of_le h1 hb0.size)).mono ?_
  rintro e w1 ⟨hb1, hor⟩
  have hbw := hb0.trans (hb1.mono hb0.size)
  rcases hor with ⟨hv, rfl⟩ | ⟨hv, hg, rfl⟩ | ⟨hv, hg, gv, rfl, hz⟩
  · have E := Lib.hid (err_no hv)
    clear hv
    go_wp2_with fail
    go_ret2
    exact ⟨by unfold Tst.soundR; rw [E.out]; rfl, hbw⟩
  · have E := Lib.hid (err_six hv hg)
    clear hv hg
    go_wp2_with fail
    go_ret2
    exact ⟨by unfold Tst.soundR; rw [E.out]; rfl, hbw⟩
  · have E := Lib.hid (err_zero hv hg)
    clear hv hg
    have c1 := hz.cell 1 (v := .bool (verd t).sound) rfl
    have hl := hz.lt
    clear hz
    go_wp2_with fail
    go_ret2
    exact ⟨by unfold Tst.soundR; rw [E.out]; rfl, hbw⟩
end Go.Proofs.YtmeeknmjhlfnaaaDoor
