/- Facts on blocks of memory that the walks of chapter 08 use. -/
import Derived.Test.YtckagcbjcpfjpaaW1
import Derived.Test.YtckagcbjcpfjpaaPlain
namespace Go.Proofs.Ytckagcbjcpfjpaa
open Go.RowKit
set_option maxHeartbeats 400000 in
theorem ones64_any (x : Nat) (w : World) (hx : x < 1024) :
    Calls Try.prog 69 #[.int .u64 x] w fun e w' => e = .returned (.int .i64 (pop x : Nat)) ∧ w = w' := by
  have HP := Lib.hid (pc_eq x hx)
  go_enter Try.func69, Try.ntmps69
  go_wp2
  go_ret
  refine ⟨?_, rfl⟩
  rw [← HP.out]
  rfl
theorem ones_any (x : Nat) (w : World) (hx : x < 1024) :
    Calls Try.prog 66 #[.int .u64 x] w fun e w' => e = .returned (.int .i64 (pop x : Nat)) ∧ w = w' := by
  go_enter Try.func66, Try.ntmps66
  go_wp2_with (go_at_call 69; refine (ones64_any _ _ hx).mono ?_; rintro e w' ⟨rfl, rfl⟩)
  go_ret
  exact ⟨rfl, rfl⟩
theorem size_any (x : Nat) (w : World) (hx : x < 1024) :
    Calls Try.prog 63 #[.int .i64 x] w fun e w' => e = .returned (.int .i64 (pop x : Nat)) ∧ w = w' := by
  go_enter Try.func63, Try.ntmps63
  go_wp2_with (go_at_call 66; refine (ones_any _ _ hx).mono ?_; rintro e w' ⟨rfl, rfl⟩)
  go_ret
  exact ⟨rfl, rfl⟩
end Go.Proofs.Ytckagcbjcpfjpaa
