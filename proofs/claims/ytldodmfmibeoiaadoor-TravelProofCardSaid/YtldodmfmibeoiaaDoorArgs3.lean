/- How a 16-bit number lies that came as an argument (TravelProof). -/
import Derived.Test.YtldodmfmibeoiaaDoorArgs
namespace Go.Proofs.YtldodmfmibeoiaaDoor
open Go.RowKit Go.WideShapes Go.ChangeShapes
section
variable {H : Type} {enc : TypeId × Value → H} {w : World} {base : Nat} {spare : Nat → Bool} {held : Bool}
set_option maxRecDepth 100000 in
theorem open_u16 {v : Value} {d : DataW H} {p : List MemPlace} {r : Reach} {b0 : Nat} (hv : Value.okWide Tryd.prog w r b0 51 v) (h : DataW.Trod enc Tryd.prog w base spare held 51 v d p) : ∃ b : Nat, v = .int .u16 (b : Nat) ∧ b < 65536 := by
  obtain ⟨n, rfl⟩ := okWide_int Tryd.underlying51 hv
  obtain ⟨fuel, h⟩ := h
  obtain ⟨n', e, _, hw⟩ := DataW.trod_int Tryd.underlying51 h
  simp [Value.cells] at e
  subst e
  obtain ⟨b, rfl, hb⟩ := wf_u16 hw
  exact ⟨b, rfl, hb⟩
end
end Go.Proofs.YtldodmfmibeoiaaDoor
