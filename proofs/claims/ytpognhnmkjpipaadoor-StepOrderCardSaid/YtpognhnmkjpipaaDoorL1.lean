/- The law's own functions: large, and the test of the examples. -/
import Derived.Test.YtpognhnmkjpipaaDoorP8
namespace Go.Proofs.YtpognhnmkjpipaaDoor
open Go.RowKit
def largeB (n m : Nat) : Bool := decide (16 < n) || decide (16 < m)
set_option maxHeartbeats 400000 in
theorem large_any (t : Tst) (oa : Option Addr) (ca : Nat) (ob : Option Addr) (cb : Nat) (w : World) :
    Calls Tryd.prog 10 #[t.val oa ca ob cb] w fun e w' => e = .returned (.bool (largeB t.n t.m)) ∧ Below w.heap.size w w' := by
  go_enter Tryd.func10, Tryd.ntmps10
  by_cases h1 : 16 < t.n
  · have E := Lib.hid (show largeB t.n t.m = true by unfold largeB; rw [decide_eq_true h1]; rfl)
    go_wp2
    go_ret
    exact ⟨ret_bool (by rw [E.out]), (by repeat' (first | exact Below.refl _ _ | assumption | apply below_drewN | apply Below.drew | (refine Below.alloc ?_ ?_ _) | (refine Below.setCell ?_ ?_ _) | (simp; done) | (simp; omega) | omega))⟩
  · by_cases h2 : 16 < t.m
    · have E := Lib.hid (show largeB t.n t.m = true by unfold largeB; rw [decide_eq_true h2]; simp)
      go_wp2
      go_ret
      exact ⟨ret_bool (by rw [E.out]; simp; omega), (by repeat' (first | exact Below.refl _ _ | assumption | apply below_drewN | apply Below.drew | (refine Below.alloc ?_ ?_ _) | (refine Below.setCell ?_ ?_ _) | (simp; done) | (simp; omega) | omega))⟩
    · have E := Lib.hid (show largeB t.n t.m = false by unfold largeB; rw [decide_eq_false h1, decide_eq_false h2]; rfl)
      go_wp2
      go_ret
      exact ⟨ret_bool (by rw [E.out]; simp; omega), (by repeat' (first | exact Below.refl _ _ | assumption | apply below_drewN | apply Below.drew | (refine Below.alloc ?_ ?_ _) | (refine Below.setCell ?_ ?_ _) | (simp; done) | (simp; omega) | omega))⟩
def sU : Nat → Spn := fun _ => ⟨0, 5⟩
def sS : Nat → Stp := fun i => if i = 0 then ⟨0, ⟨40, 45⟩⟩ else if i = 1 then ⟨1, ⟨38, 44⟩⟩ else ⟨3, ⟨0, 6⟩⟩
def smp : Tst := ⟨3, sU, 1, 20, 3, sS⟩
def smp2 : Tst := ⟨3, sU, 2, 1, 3, sS⟩
def smp3 : Tst := ⟨3, sU, 1, 20, 1, sS⟩
def sV : Nat → Int := fun i => if i = 0 then 1 else if i = 1 then 3 else 4
theorem smp_all : smp.canR = 2 ∧ smp.surelyR = 2 ∧ smp.err = 0 ∧ smp.leakR 1 = ⟨28, 44⟩ ∧ smp.leakErr 1 = 0 ∧ smp.soundR = false := by decide
theorem smp2_all : smp2.canR = 7 ∧ smp2.surelyR = 2 ∧ smp2.err = 0 ∧ smp2.leakR 0 = ⟨1, 17⟩ ∧ smp2.leakErr 0 = 0 ∧ smp2.leakR 1 = ⟨22, 44⟩ ∧ smp2.leakErr 1 = 0 := by decide
theorem smp3_all : smp3.nextErr 3 sV = 0 ∧ smp3.nextR 3 sV = (0, 2) := by decide
end Go.Proofs.YtpognhnmkjpipaaDoor
