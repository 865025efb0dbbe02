/- math/bits.OnesCount, of sets of at most ten streets; the document's Size. -/
import Derived.Test.YtmeeknmjhlfnaaaDoorW1
import Derived.Deep.DeepCutAuto
import Derived.Deep.Light
import Derived.TacticsInMore
namespace Go.Proofs.YtmeeknmjhlfnaaaDoor
open Go.RowKit
/-- how many streets, of the first k ones, are in a set -/
def onesN (x : Nat) : Nat → Nat
  | 0 => 0
  | k + 1 => onesN x k + if hasB x k then 1 else 0
def sizeN (x : Nat) : Nat := onesN x 10
def oc1 (x : Int) : Int := IntKind.u64.wrap (bits BinOp.and IntKind.u64 (x / 2) 6148914691236517205 + bits BinOp.and IntKind.u64 x 6148914691236517205)
def oc2 (x : Int) : Int := IntKind.u64.wrap (bits BinOp.and IntKind.u64 (x / 4) 3689348814741910323 + bits BinOp.and IntKind.u64 x 3689348814741910323)
def oc3 (x : Int) : Int := bits BinOp.and IntKind.u64 (IntKind.u64.wrap (x / 16 + x)) 1085102592571150095
def oc4 (x : Int) : Int := IntKind.u64.wrap (x + x / 256)
def oc5 (x : Int) : Int := IntKind.u64.wrap (x + x / 65536)
def oc6 (x : Int) : Int := IntKind.u64.wrap (x + x / 4294967296)
def oc7 (x : Int) : Int := bits BinOp.and IntKind.i64 (wrap64 x) 127
theorem oc_all : (List.range 1024).all (fun x => decide (oc7 (oc6 (oc5 (oc4 (oc3 (oc2 (oc1 (x : Nat))))))) = (sizeN x : Nat))) = true := by kernel_rfl
theorem oc_eq {x : Nat} (hx : x < 1024) : oc7 (oc6 (oc5 (oc4 (oc3 (oc2 (oc1 (x : Nat))))))) = (sizeN x : Nat) := of_decide_eq_true (List.all_eq_true.1 oc_all x (List.mem_range.2 hx))
theorem ones64_any (x : Nat) (hx : x < 1024) (w : World) :
    Calls Tryd.prog 41 #[.int .u64 x] w fun e w' => e = .returned (.int .i64 (sizeN x)) ∧ w' = w := by
  go_enter Tryd.func41, Tryd.ntmps41
  go_upto_region 2 with fail
  obtain ⟨y1, hy1⟩ : ∃ y : Int, y = IntKind.u64.wrap (bits BinOp.and IntKind.u64 ((x : Int) / 2) 6148914691236517205 + bits BinOp.and IntKind.u64 (x : Int) 6148914691236517205) := ⟨_, rfl⟩
  rw [← hy1]
  have H1 := Lib.hid (show y1 = oc1 (x : Int) from hy1)
  clear hy1
  go_upto_region 3 with fail
  obtain ⟨y2, hy2⟩ : ∃ y : Int, y = IntKind.u64.wrap (bits BinOp.and IntKind.u64 (y1 / 4) 3689348814741910323 + bits BinOp.and IntKind.u64 y1 3689348814741910323) := ⟨_, rfl⟩
  rw [← hy2]
  have H2 := Lib.hid (show y2 = oc2 y1 from hy2)
  clear hy2
  go_upto_region 4 with fail
  obtain ⟨y3, hy3⟩ : ∃ y : Int, y = bits BinOp.and IntKind.u64 (IntKind.u64.wrap (y2 / 16 + y2)) 1085102592571150095 := ⟨_, rfl⟩
  rw [← hy3]
  have H3 := Lib.hid (show y3 = oc3 y2 from hy3)
  clear hy3
  go_upto_region 5 with fail
  obtain ⟨y4, hy4⟩ : ∃ y : Int, y = IntKind.u64.wrap (y3 + y3 / 256) := ⟨_, rfl⟩
  rw [← hy4]
  have H4 := Lib.hid (show y4 = oc4 y3 from hy4)
  clear hy4
  go_upto_region 6 with fail
  obtain ⟨y5, hy5⟩ : ∃ y : Int, y = IntKind.u64.wrap (y4 + y4 / 65536) := ⟨_, rfl⟩
  rw [← hy5]
  have H5 := Lib.hid (show y5 = oc5 y4 from hy5)
  clear hy5
  go_upto_region 7 with fail
  obtain ⟨y6, hy6⟩ : ∃ y : Int, y = IntKind.u64.wrap (y5 + y5 / 4294967296) := ⟨_, rfl⟩
  rw [← hy6]
  have H6 := Lib.hid (show y6 = oc6 y5 from hy6)
  clear hy6
  go_wp2
  go_ret
  refine ⟨congrArg (fun z => Ending.returned (.int .i64 z)) ?_, rfl⟩
  have h := oc_eq hx
  rw [← H1.out, ← H2.out, ← H3.out, ← H4.out, ← H5.out, ← H6.out] at h
  exact h
theorem ones_any (x : Nat) (hx : x < 1024) (w : World) :
    Calls Tryd.prog 29 #[.int .u64 x] w fun e w' => e = .returned (.int .i64 (sizeN x)) ∧ w' = w := by
  go_enter Tryd.func29, Tryd.ntmps29
  go_wp2_with fail
  refine (ones64_any x hx _).mono ?_
  rintro e w' ⟨rfl, rfl⟩
  go_wp2
  go_ret
  exact ⟨rfl, rfl⟩
end Go.Proofs.YtmeeknmjhlfnaaaDoor
