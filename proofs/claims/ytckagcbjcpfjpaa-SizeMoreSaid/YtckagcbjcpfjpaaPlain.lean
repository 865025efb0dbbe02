/- Plain facts of this seat on numbers and bits; no program in sight. -/
import Derived.WalkKit
namespace Go.Proofs.Ytckagcbjcpfjpaa
open Go.RowKit
/-- how many k below n have a mark -/
def cnt : Nat → (Nat → Bool) → Nat
  | 0, _ => 0
  | n + 1, p => cnt n p + (if p n then 1 else 0)
def bitAt (s k : Nat) : Bool := s / 2 ^ k % 2 == 1
def pop (s : Nat) : Nat := cnt 10 (bitAt s)
def pcA (x : Int) : Int := IntKind.u64.wrap (bits BinOp.and IntKind.u64 (x / 2) 6148914691236517205 + bits BinOp.and IntKind.u64 x 6148914691236517205)
def pcB (x : Int) : Int := IntKind.u64.wrap (bits BinOp.and IntKind.u64 (x / 4) 3689348814741910323 + bits BinOp.and IntKind.u64 x 3689348814741910323)
def pcC (x : Int) : Int := bits BinOp.and IntKind.u64 (IntKind.u64.wrap (x / 16 + x)) 1085102592571150095
def pcD (x : Int) : Int := IntKind.u64.wrap (x + x / 256)
def pcE (x : Int) : Int := IntKind.u64.wrap (x + x / 65536)
def pcF (x : Int) : Int := IntKind.u64.wrap (x + x / 4294967296)
def pc (x : Int) : Int := bits BinOp.and IntKind.i64 (wrap64 (pcF (pcE (pcD (pcC (pcB (pcA x))))))) 127
theorem pc_all : (List.range 1024).all (fun x => pc x == (pop x : Nat)) = true := by decide +kernel
theorem pc_eq (x : Nat) (h : x < 1024) : pc x = pop x := by
  have := List.all_eq_true.1 pc_all x (List.mem_range.2 h)
  simpa using this
end Go.Proofs.Ytckagcbjcpfjpaa
