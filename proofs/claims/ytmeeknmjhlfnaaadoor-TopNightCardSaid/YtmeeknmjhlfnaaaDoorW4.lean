/- isTest says just if a test is valid. -/
import Derived.Test.YtmeeknmjhlfnaaaDoorW3
namespace Go.Proofs.YtmeeknmjhlfnaaaDoor
open Go.RowKit
def Tst.head (t : Tst) : Bool := withinB t.n 1 10 && (withinB t.leaks 0 2 && (withinB t.least 1 1073741824 && decide (t.m ≤ 12)))
def Tst.valid (t : Tst) : Bool := t.head && (!anyB t.n (fun i => badU (t.u i)) && !anyB t.m (fun i => badS (top t.n) (t.s i)))
/-- a box that holds a test -/
abbrev TB (t : Tst) (oa : Option Addr) (ca : Nat) (ob : Option Addr) (cb g : Nat) (w : World) : Prop := Box g #[.slice oa t.n ca, .int .i64 t.leaks, .int .i64 t.least, .slice ob t.m cb] 25 w
theorem TB.cells {t : Tst} {oa : Option Addr} {ca : Nat} {ob : Option Addr} {cb g : Nat} {w : World} (h : TB t oa ca ob cb g w) :
    w.cell? ⟨g, 0, none⟩ = some (.slice oa t.n ca) ∧ w.cell? ⟨g, 1, none⟩ = some (.int .i64 t.leaks) ∧ w.cell? ⟨g, 2, none⟩ = some (.int .i64 t.least) ∧ w.cell? ⟨g, 3, none⟩ = some (.slice ob t.m cb) ∧ g < w.heap.size := ⟨h.cell 0 rfl, h.cell 1 rfl, h.cell 2 rfl, h.cell 3 rfl, h.lt⟩
theorem top_all : (List.range 11).all (fun n => decide (wrap64 (wrap64 ((2 : Int) ^ n) - 1) = top n ∧ wrap64 ((2 : Int) ^ n) = ((2 ^ n : Nat) : Int))) = true := by kernel_rfl
theorem top_wrap {n : Nat} (h : n ≤ 10) : wrap64 (wrap64 ((2 : Int) ^ n) - 1) = top n := (of_decide_eq_true (List.all_eq_true.1 top_all n (List.mem_range.2 (by omega)))).1
theorem pow_wrap {n : Nat} (h : n ≤ 10) : wrap64 ((2 : Int) ^ n) = ((2 ^ n : Nat) : Int) := (of_decide_eq_true (List.all_eq_true.1 top_all n (List.mem_range.2 (by omega)))).2
set_option maxHeartbeats 4000000 in
theorem isTest_any (t : Tst) (oa : Option Addr) (ca : Nat) (ob : Option Addr) (cb : Nat) (w : World) (hn : t.n ≤ 1000000) (hm : t.m ≤ 1000000) (hU : SpnsAt w oa t.n t.u) (hS : StpsAt w ob t.m t.s) :
    Calls Tryd.prog 25 #[t.val oa ca ob cb] w fun e w' => e = .returned (.bool t.valid) ∧ Below w.heap.size w w' := by
  have HU := Lib.hid hU
  have HS := Lib.hid hS
  clear hU hS
  go_enter Tryd.func25, Tryd.ntmps25
  go_upto_region 4 with fail
  have hb0 : Below w.heap.size w ((w.alloc (.cells #[.slice oa t.n ca, .int .i64 t.leaks, .int .i64 t.least, .slice ob t.m cb] 25)).alloc (.cells #[.int .i64 0] 3)) := (by repeat' (first | exact Below.refl _ _ | assumption | apply below_drewN | apply Below.drew | (refine Below.alloc ?_ ?_ _) | (refine Below.setCell ?_ ?_ _) | (simp; done) | (simp; omega) | omega))
  have hT : TB t oa ca ob cb w.heap.size ((w.alloc (.cells #[.slice oa t.n ca, .int .i64 t.leaks, .int .i64 t.least, .slice ob t.m cb] 25)).alloc (.cells #[.int .i64 0] 3)) := (Box.new _ 25 w rfl).old _
  have hA : Box (w.heap.size + 1) #[.int .i64 0] 3 ((w.alloc (.cells #[.slice oa t.n ca, .int .i64 t.leaks, .int .i64 t.least, .slice ob t.m cb] 25)).alloc (.cells #[.int .i64 0] 3)) := Box.new _ 3 _ (by simp)
  obtain ⟨W, hW⟩ : ∃ X, X = ((w.alloc (.cells #[.slice oa t.n ca, .int .i64 t.leaks, .int .i64 t.least, .slice ob t.m cb] 25)).alloc (.cells #[.int .i64 0] 3)) := ⟨_, rfl⟩
  rw [← hW] at hb0 hT hA ⊢
  clear hW
  have HB := Lib.hid hT
  have HA := Lib.hid hA
  have HV := Lib.hid (show t.valid = (t.head && (!anyB t.n (fun i => badU (t.u i)) && !anyB t.m (fun i => badS (top t.n) (t.s i)))) from rfl)
  have HH := Lib.hid (show t.head = (withinB t.n 1 10 && (withinB t.leaks 0 2 && (withinB t.least 1 1073741824 && decide (t.m ≤ 12)))) from rfl)
  clear hA
  obtain ⟨b0, b1, b2, b3, b4⟩ := TB.cells hT
  clear hT
  go_wp2_with fail
  refine (within_any _ _ _ _).mono ?_
  rintro e w1 ⟨rfl, rfl⟩
  rcases h1 : withinB t.n 1 10
  case false =>
    have E := Lib.hid (show t.valid = false by rw [HV.out, HH.out, h1]; rfl)
    clear h1
    go_wp2
    go_ret
    exact ⟨ret_bool (by rw [E.out]), hb0⟩
  go_wp2_with fail
  refine (within_any _ _ _ _).mono ?_
  rintro e w1 ⟨rfl, rfl⟩
  rcases h2 : withinB t.leaks 0 2
  case false =>
    have E := Lib.hid (show t.valid = false by rw [HV.out, HH.out, h2]; simp)
    clear h1 h2
    go_wp2
    go_ret
    exact ⟨ret_bool (by rw [E.out]), hb0⟩
  go_wp2_with fail
  refine (within_any _ _ _ _).mono ?_
  rintro e w1 ⟨rfl, rfl⟩
  rcases h3 : withinB t.least 1 1073741824
  case false =>
    have E := Lib.hid (show t.valid = false by rw [HV.out, HH.out, h3]; simp)
    clear h1 h2 h3
    go_wp2
    go_ret
    exact ⟨ret_bool (by rw [E.out]), hb0⟩
  by_cases h4 : t.m ≤ 12
  case neg =>
    have E := Lib.hid (show t.valid = false by rw [HV.out, HH.out, decide_eq_false h4]; simp)
    have z : decide (12 < t.m) = true := by simp; omega
    clear h1 h2 h3
    go_wp2
    go_ret
    exact ⟨ret_bool (by rw [E.out]), hb0⟩
  have z : decide (12 < t.m) = false := by simp; omega
  have hn1 : 1 ≤ t.n ∧ t.n ≤ 10 := by simp only [withinB, decide_eq_true_eq] at h1; omega
  have HV2 := Lib.hid (show t.valid = (!anyB t.n (fun i => badU (t.u i)) && !anyB t.m (fun i => badS (top t.n) (t.s i))) by rw [HV.out, HH.out, h1, h2, h3, decide_eq_true h4]; rfl)
  clear h1 h2 h3
  have a1 := HA.out.cell 0 rfl
  have a2 := HA.out.frozen 0
  have a3 := HA.out.lt
  go_upto_region 7 with fail
  rw [top_wrap hn1.2]
  clear a1 a2 a3
  have hA2 := HA.out.set 0 (.int .i64 (top t.n))
  have ho := (Only.refl (w.heap.size + 1) W).setCell 0 (.int .i64 (top t.n))
  have hB2 := ho.box HB.out (by omega)
  have hb2 := hb0.trans (ho.below (by omega))
  obtain ⟨W2, hW⟩ : ∃ X, X = W.setCell ⟨w.heap.size + 1, 0, none⟩ (.int .i64 (top t.n)) := ⟨_, rfl⟩
  rw [← hW] at hA2 hB2 hb2 ⊢
  clear hW ho HA HB hb0 b0 b1 b2 b3 b4
  have HA := Lib.hid hA2
  have HB := Lib.hid hB2
  obtain ⟨b0, b1, b2, b3, b4⟩ := TB.cells hB2
  clear hA2 hB2
  go_wp2_with fail
  refine (containsSpans_any oa t.n ca t.u _ hn (HU.out.mono hb2)).mono ?_
  rintro e w3 ⟨rfl, hb3⟩
  clear b0 b1 b2 b3 b4
  have hb4 := hb2.trans (hb3.mono hb2.size)
  have hB3 := HB.out.below hb3
  have hA3 := HA.out.below hb3
  obtain ⟨b0, b1, b2, b3, b4⟩ := TB.cells hB3
  cases h5 : anyB t.n (fun i => badU (t.u i))
  · have HV3 := Lib.hid (show t.valid = !anyB t.m (fun i => badS (top t.n) (t.s i)) by rw [HV2.out, h5]; rfl)
    clear h5
    go_wp2_with fail
    refine (containsSteps_any ob t.m cb t.s _ hm (HS.out.mono hb4) (top t.n) (w.heap.size + 1) hA3.lt (hA3.cell 0 rfl)).mono ?_
    rintro e w5 ⟨rfl, hb5⟩
    go_wp2
    go_ret
    exact ⟨ret_bool (by rw [HV3.out]), hb4.trans (hb5.mono hb4.size)⟩
  · have HV3 := Lib.hid (show t.valid = false by rw [HV2.out, h5]; rfl)
    clear h5
    go_wp2
    go_ret
    exact ⟨ret_bool (by rw [HV3.out]), hb4⟩
end Go.Proofs.YtmeeknmjhlfnaaaDoor
