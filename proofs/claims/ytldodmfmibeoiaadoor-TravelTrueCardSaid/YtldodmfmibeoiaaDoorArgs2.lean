/- How a list of 16-bit numbers lies that came as an argument (TravelTrue). -/
import Derived.Test.YtldodmfmibeoiaaDoorArgs
import Derived.Test.YtldodmfmibeoiaaDoorT1
namespace Go.Proofs.YtldodmfmibeoiaaDoor
open Go.RowKit Go.WideShapes Go.ChangeShapes
open Go.RowKit Go.WideShapes Go.ChangeShapes Go.Joins Go.Deep
section
variable {H : Type} {enc : TypeId × Value → H} {w : World} {base : Nat} {spare : Nat → Bool} {held : Bool}
def u16Of (w : World) (oa : Option Addr) (i : Nat) : Nat := match oa with
  | some a => (cellInt w a i).toNat
  | none => 0
set_option maxRecDepth 100000 in
theorem open_u16s {v : Value} {d : DataW H} {p : List MemPlace} {r : Reach} {b0 : Nat} (hv : Value.okWide Tryd.prog w r b0 41 v) (h : DataW.Trod enc Tryd.prog w base spare held 41 v d p) :
    ∃ oa n cap, v = .slice oa n cap ∧ U16sAt w oa n (u16Of w oa) ∧ n ≤ cap ∧ n ≤ 9223372036854775807 := by
  obtain ⟨a0, len, cap, rfl⟩ := okWide_slice Tryd.underlying41 hv
  obtain ⟨fuel, h⟩ := h
  rcases open_slice Tryd.underlying41 h with ⟨h0, _⟩ | ⟨a, len', cap', m, n, D, Pl, hcs, hb, hl, hm, hmm, hx, hi⟩
  · simp [Value.cells] at h0
    obtain ⟨rfl, rfl, rfl⟩ := h0
    exact ⟨none, 0, 0, rfl, fun i hi => by omega, by omega, by omega⟩
  · simp [Value.cells] at hcs
    obtain ⟨rfl, rfl, rfl⟩ := hcs
    refine ⟨some a, len, cap, rfl, fun i hlt => ?_, hl, by unfold maxLen at hm; omega⟩
    have hlm : len ≤ m := by rw [hmm]; split <;> omega
    have cell : ∀ i, i < len → (∃ v, w.cell? ((a.add (i * 1)).add 0) = some v) ∧ ∃ b : Nat, b < 65536 ∧ w.cell? ⟨a.block, a.off + (i * 1 + 0), none⟩ = some (.int .u16 (b : Nat)) := fun i hi9 => by
      obtain ⟨cs, hc, ht⟩ := hi i (by omega)
      rw [show Tryd.prog.cellsOf 51 = 1 by kernel_rfl] at hc
      obtain ⟨n', e, _, hw⟩ := DataW.trod_int Tryd.underlying51 ht
      obtain ⟨b, rfl, hb⟩ := wf_u16 hw
      obtain ⟨_, hcl, hat⟩ := World.cells?_some hc
      subst e
      exact ⟨⟨_, hat 0 (by omega)⟩, b, hb, at_cell hat (i := 0) (by omega) rfl⟩
    obtain ⟨⟨v, hv⟩, -⟩ := cell 0 (by omega)
    obtain ⟨-, b, hb9, h0⟩ := cell i hlt
    have h1 : w.cell? ⟨a.block, a.off + i, none⟩ = some (.int .u16 (b : Nat)) := by simpa using h0
    have e : u16Of w (some a) i = b := by
      show (cellInt w a i).toNat = b
      rw [cellInt_of h1]; simp
    rw [e]
    exact ⟨hb9, a.block, a.off, addr_eta (cell_zero hv), cell_lt h1, h1⟩
end
end Go.Proofs.YtldodmfmibeoiaaDoor
