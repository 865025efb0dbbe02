/- Zone: a list of 16-bit numbers, in memory. -/
import Derived.Test.YtipnaeijbbbdoaaL0
namespace Go.Proofs.Ytipnaeijbbbdoaa
open Go.RowKit
/-- a list of 16-bit numbers -/
def U16sAt (w : World) (oa : Option Addr) (n : Nat) (k : Nat → Nat) : Prop :=
  ∀ i, i < n → k i < 65536 ∧ ∃ b off, oa = some ⟨b, off, none⟩ ∧ b < w.heap.size ∧ w.cell? ⟨b, off + i, none⟩ = some (.int .u16 (k i : Nat))
theorem U16sAt.mono {w w' : World} {oa : Option Addr} {n : Nat} {t : Nat → Nat} (h : U16sAt w oa n t) (hb : Below w.heap.size w w') : U16sAt w' oa n t := fun i hi => by
  obtain ⟨hk, b, off, ha, hlt, h0⟩ := h i hi
  exact ⟨hk, b, off, ha, Nat.lt_of_lt_of_le hlt hb.size, (hb.cell (p := ⟨b, off + i, none⟩) hlt).trans h0⟩
end Go.Proofs.Ytipnaeijbbbdoaa
