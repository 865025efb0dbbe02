/- Travel: math/bits.OnesCount of sets of at most fourteen trips; the members of a set; before. -/
import Derived.Test.YtldodmfmibeoiaaDoorP2
import Derived.Deep.Light
import Derived.TacticsInMore
namespace Go.Proofs.YtldodmfmibeoiaaDoor
open Go.RowKit
/-- is a trip in a set -/
def hasB (k i : Nat) : Bool := decide (k / 2 ^ i % 2 = 1)
def onesN (x : Nat) : Nat → Nat
  | 0 => 0
  | k + 1 => onesN x k + if hasB x k then 1 else 0
def sizeN (x : Nat) : Nat := onesN x 14
def bitsL (x : Nat) : List Nat := (List.range 14).filter (hasB x)
def oc1 (x : Int) : Int := IntKind.u64.wrap (bits BinOp.and IntKind.u64 (x / 2) 6148914691236517205 + bits BinOp.and IntKind.u64 x 6148914691236517205)
def oc2 (x : Int) : Int := IntKind.u64.wrap (bits BinOp.and IntKind.u64 (x / 4) 3689348814741910323 + bits BinOp.and IntKind.u64 x 3689348814741910323)
def oc3 (x : Int) : Int := bits BinOp.and IntKind.u64 (IntKind.u64.wrap (x / 16 + x)) 1085102592571150095
def oc4 (x : Int) : Int := IntKind.u64.wrap (x + x / 256)
def oc5 (x : Int) : Int := IntKind.u64.wrap (x + x / 65536)
def oc6 (x : Int) : Int := IntKind.u64.wrap (x + x / 4294967296)
def oc7 (x : Int) : Int := bits BinOp.and IntKind.i64 (wrap64 x) 127
def ocB (x : Nat) : Bool := decide (oc7 (oc6 (oc5 (oc4 (oc3 (oc2 (oc1 (x : Nat))))))) = (sizeN x : Nat))
/-- all of many, in pieces -/
def allP (p : Nat → Bool) (n : Nat) : Nat → Bool
  | 0 => true
  | k + 1 => p (n + k) && allP p n k
theorem allP_spec {p : Nat → Bool} {n : Nat} : ∀ {k}, allP p n k = true → ∀ i, n ≤ i → i < n + k → p i = true
  | 0, _, i, h1, h2 => by omega
  | k + 1, h, i, h1, h2 => by
    unfold allP at h
    simp only [Bool.and_eq_true] at h
    by_cases h9 : i = n + k
    · subst h9; exact h.1
    · exact allP_spec h.2 i h1 (by omega)
theorem oc_all0 : allP ocB 0 1024 = true := by kernel_rfl
theorem oc_all1 : allP ocB 1024 1024 = true := by kernel_rfl
theorem oc_all2 : allP ocB 2048 1024 = true := by kernel_rfl
theorem oc_all3 : allP ocB 3072 1024 = true := by kernel_rfl
theorem oc_all4 : allP ocB 4096 1024 = true := by kernel_rfl
theorem oc_all5 : allP ocB 5120 1024 = true := by kernel_rfl
theorem oc_all6 : allP ocB 6144 1024 = true := by kernel_rfl
theorem oc_all7 : allP ocB 7168 1024 = true := by kernel_rfl
theorem oc_all8 : allP ocB 8192 1024 = true := by kernel_rfl
theorem oc_all9 : allP ocB 9216 1024 = true := by kernel_rfl
theorem oc_all10 : allP ocB 10240 1024 = true := by kernel_rfl
theorem oc_all11 : allP ocB 11264 1024 = true := by kernel_rfl
theorem oc_all12 : allP ocB 12288 1024 = true := by kernel_rfl
theorem oc_all13 : allP ocB 13312 1024 = true := by kernel_rfl
theorem oc_all14 : allP ocB 14336 1024 = true := by kernel_rfl
theorem oc_all15 : allP ocB 15360 1024 = true := by kernel_rfl
theorem oc_eq {x : Nat} (hx : x < 16384) : ocB x = true := by
  by_cases h0 : x < 1024
  · exact allP_spec oc_all0 x (by omega) (by omega)
  by_cases h1 : x < 2048
  · exact allP_spec oc_all1 x (by omega) (by omega)
  by_cases h2 : x < 3072
  · exact allP_spec oc_all2 x (by omega) (by omega)
  by_cases h3 : x < 4096
  · exact allP_spec oc_all3 x (by omega) (by omega)
  by_cases h4 : x < 5120
  · exact allP_spec oc_all4 x (by omega) (by omega)
  by_cases h5 : x < 6144
  · exact allP_spec oc_all5 x (by omega) (by omega)
  by_cases h6 : x < 7168
  · exact allP_spec oc_all6 x (by omega) (by omega)
  by_cases h7 : x < 8192
  · exact allP_spec oc_all7 x (by omega) (by omega)
  by_cases h8 : x < 9216
  · exact allP_spec oc_all8 x (by omega) (by omega)
  by_cases h9 : x < 10240
  · exact allP_spec oc_all9 x (by omega) (by omega)
  by_cases h10 : x < 11264
  · exact allP_spec oc_all10 x (by omega) (by omega)
  by_cases h11 : x < 12288
  · exact allP_spec oc_all11 x (by omega) (by omega)
  by_cases h12 : x < 13312
  · exact allP_spec oc_all12 x (by omega) (by omega)
  by_cases h13 : x < 14336
  · exact allP_spec oc_all13 x (by omega) (by omega)
  by_cases h14 : x < 15360
  · exact allP_spec oc_all14 x (by omega) (by omega)
  by_cases h15 : x < 16384
  · exact allP_spec oc_all15 x (by omega) (by omega)
  omega
def szB (x : Nat) : Bool := decide (x = 0) || decide (sizeN x = sizeN (x &&& (x - 1)) + 1)
def lowB (x : Nat) : Bool := decide (x = 0) || decide (bits BinOp.and .i64 (x : Int) (-(x : Int)) = ((2 ^ Lib.ctz 64 x : Nat) : Int))
theorem sz_all0 : allP szB 0 1024 = true := by kernel_rfl
theorem sz_all1 : allP szB 1024 1024 = true := by kernel_rfl
theorem sz_all2 : allP szB 2048 1024 = true := by kernel_rfl
theorem sz_all3 : allP szB 3072 1024 = true := by kernel_rfl
theorem sz_all4 : allP szB 4096 1024 = true := by kernel_rfl
theorem sz_all5 : allP szB 5120 1024 = true := by kernel_rfl
theorem sz_all6 : allP szB 6144 1024 = true := by kernel_rfl
theorem sz_all7 : allP szB 7168 1024 = true := by kernel_rfl
theorem sz_all8 : allP szB 8192 1024 = true := by kernel_rfl
theorem sz_all9 : allP szB 9216 1024 = true := by kernel_rfl
theorem sz_all10 : allP szB 10240 1024 = true := by kernel_rfl
theorem sz_all11 : allP szB 11264 1024 = true := by kernel_rfl
theorem sz_all12 : allP szB 12288 1024 = true := by kernel_rfl
theorem sz_all13 : allP szB 13312 1024 = true := by kernel_rfl
theorem sz_all14 : allP szB 14336 1024 = true := by kernel_rfl
theorem sz_all15 : allP szB 15360 1024 = true := by kernel_rfl
theorem sz_eq {x : Nat} (hx : x < 16384) : szB x = true := by
  by_cases h0 : x < 1024
  · exact allP_spec sz_all0 x (by omega) (by omega)
  by_cases h1 : x < 2048
  · exact allP_spec sz_all1 x (by omega) (by omega)
  by_cases h2 : x < 3072
  · exact allP_spec sz_all2 x (by omega) (by omega)
  by_cases h3 : x < 4096
  · exact allP_spec sz_all3 x (by omega) (by omega)
  by_cases h4 : x < 5120
  · exact allP_spec sz_all4 x (by omega) (by omega)
  by_cases h5 : x < 6144
  · exact allP_spec sz_all5 x (by omega) (by omega)
  by_cases h6 : x < 7168
  · exact allP_spec sz_all6 x (by omega) (by omega)
  by_cases h7 : x < 8192
  · exact allP_spec sz_all7 x (by omega) (by omega)
  by_cases h8 : x < 9216
  · exact allP_spec sz_all8 x (by omega) (by omega)
  by_cases h9 : x < 10240
  · exact allP_spec sz_all9 x (by omega) (by omega)
  by_cases h10 : x < 11264
  · exact allP_spec sz_all10 x (by omega) (by omega)
  by_cases h11 : x < 12288
  · exact allP_spec sz_all11 x (by omega) (by omega)
  by_cases h12 : x < 13312
  · exact allP_spec sz_all12 x (by omega) (by omega)
  by_cases h13 : x < 14336
  · exact allP_spec sz_all13 x (by omega) (by omega)
  by_cases h14 : x < 15360
  · exact allP_spec sz_all14 x (by omega) (by omega)
  by_cases h15 : x < 16384
  · exact allP_spec sz_all15 x (by omega) (by omega)
  omega
theorem lo_all0 : allP lowB 0 1024 = true := by kernel_rfl
theorem lo_all1 : allP lowB 1024 1024 = true := by kernel_rfl
theorem lo_all2 : allP lowB 2048 1024 = true := by kernel_rfl
theorem lo_all3 : allP lowB 3072 1024 = true := by kernel_rfl
theorem lo_all4 : allP lowB 4096 1024 = true := by kernel_rfl
theorem lo_all5 : allP lowB 5120 1024 = true := by kernel_rfl
theorem lo_all6 : allP lowB 6144 1024 = true := by kernel_rfl
theorem lo_all7 : allP lowB 7168 1024 = true := by kernel_rfl
theorem lo_all8 : allP lowB 8192 1024 = true := by kernel_rfl
theorem lo_all9 : allP lowB 9216 1024 = true := by kernel_rfl
theorem lo_all10 : allP lowB 10240 1024 = true := by kernel_rfl
theorem lo_all11 : allP lowB 11264 1024 = true := by kernel_rfl
theorem lo_all12 : allP lowB 12288 1024 = true := by kernel_rfl
theorem lo_all13 : allP lowB 13312 1024 = true := by kernel_rfl
theorem lo_all14 : allP lowB 14336 1024 = true := by kernel_rfl
theorem lo_all15 : allP lowB 15360 1024 = true := by kernel_rfl
theorem lo_eq {x : Nat} (hx : x < 16384) : lowB x = true := by
  by_cases h0 : x < 1024
  · exact allP_spec lo_all0 x (by omega) (by omega)
  by_cases h1 : x < 2048
  · exact allP_spec lo_all1 x (by omega) (by omega)
  by_cases h2 : x < 3072
  · exact allP_spec lo_all2 x (by omega) (by omega)
  by_cases h3 : x < 4096
  · exact allP_spec lo_all3 x (by omega) (by omega)
  by_cases h4 : x < 5120
  · exact allP_spec lo_all4 x (by omega) (by omega)
  by_cases h5 : x < 6144
  · exact allP_spec lo_all5 x (by omega) (by omega)
  by_cases h6 : x < 7168
  · exact allP_spec lo_all6 x (by omega) (by omega)
  by_cases h7 : x < 8192
  · exact allP_spec lo_all7 x (by omega) (by omega)
  by_cases h8 : x < 9216
  · exact allP_spec lo_all8 x (by omega) (by omega)
  by_cases h9 : x < 10240
  · exact allP_spec lo_all9 x (by omega) (by omega)
  by_cases h10 : x < 11264
  · exact allP_spec lo_all10 x (by omega) (by omega)
  by_cases h11 : x < 12288
  · exact allP_spec lo_all11 x (by omega) (by omega)
  by_cases h12 : x < 13312
  · exact allP_spec lo_all12 x (by omega) (by omega)
  by_cases h13 : x < 14336
  · exact allP_spec lo_all13 x (by omega) (by omega)
  by_cases h14 : x < 15360
  · exact allP_spec lo_all14 x (by omega) (by omega)
  by_cases h15 : x < 16384
  · exact allP_spec lo_all15 x (by omega) (by omega)
  omega
end Go.Proofs.YtldodmfmibeoiaaDoor
