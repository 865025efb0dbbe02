/- How further arguments of this seat's laws lie: small numbers, lists of them, one rule. -/
import Derived.Test.YtckagcbjcpfjpaaArgs
namespace Go.Proofs.Ytckagcbjcpfjpaa
open Go.RowKit Go.WideShapes Go.ChangeShapes Go.Joins Go.Deep
section
variable {H : Type} {enc : TypeId × Value → H} {w : World} {base : Nat} {spare : Nat → Bool} {held : Bool}
theorem wf_u16 {n : Int} (h : (Lit.int .u16 n).wf = true) : ∃ b : Nat, n = (b : Int) ∧ b < 65536 := by
  simp [Lit.wf, IntKind.min, IntKind.max, IntKind.bits, IntKind.signed] at h
  exact ⟨n.toNat, by omega, by omega⟩
theorem wf_u8 {n : Int} (h : (Lit.int .u8 n).wf = true) : ∃ b : Nat, n = (b : Int) ∧ b < 256 := by
  simp [Lit.wf, IntKind.min, IntKind.max, IntKind.bits, IntKind.signed] at h
  exact ⟨n.toNat, by omega, by omega⟩
set_option maxRecDepth 100000 in
theorem open_u16 {v : Value} {d : DataW H} {p : List MemPlace} {r : Reach} {b0 : Nat} (hv : Value.okWide Try.prog w r b0 47 v) (h : DataW.Trod enc Try.prog w base spare held 47 v d p) : ∃ b : Nat, v = .int .u16 (b : Nat) ∧ b < 65536 := by
  obtain ⟨n, rfl⟩ := okWide_int Try.underlying47 hv
  obtain ⟨fuel, h⟩ := h
  obtain ⟨n', e, _, hw⟩ := DataW.trod_int Try.underlying47 h
  simp [Value.cells] at e
  subst e
  obtain ⟨b, rfl, hb⟩ := wf_u16 hw
  exact ⟨b, rfl, hb⟩
set_option maxRecDepth 100000 in
theorem open_u8 {v : Value} {d : DataW H} {p : List MemPlace} {r : Reach} {b0 : Nat} (hv : Value.okWide Try.prog w r b0 5 v) (h : DataW.Trod enc Try.prog w base spare held 5 v d p) : ∃ b : Nat, v = .int .u8 (b : Nat) ∧ b < 256 := by
  obtain ⟨n, rfl⟩ := okWide_int Try.underlying5 hv
  obtain ⟨fuel, h⟩ := h
  obtain ⟨n', e, _, hw⟩ := DataW.trod_int Try.underlying5 h
  simp [Value.cells] at e
  subst e
  obtain ⟨b, rfl, hb⟩ := wf_u8 hw
  exact ⟨b, rfl, hb⟩
set_option maxRecDepth 100000 in
theorem open_rule {r : Reach} {b0 : Nat} {v : Value} {d : DataW H} {p : List MemPlace} (hv : Value.okWide Try.prog w r b0 65 v) (h : DataW.Trod enc Try.prog w base spare held 65 v d p) :
    ∃ r : Rule, v = r.val := by
  obtain ⟨v0, v1, y0, y1, n, rfl, _, _, h0, h1⟩ := open_agg2 Try.underlying65 (by kernel_rfl) (by kernel_rfl) hv h
  obtain ⟨a, rfl, _⟩ := open_i64 h0
  obtain ⟨b, rfl, _⟩ := open_i64 h1
  exact ⟨⟨a, b⟩, rfl⟩
/-- a list of 16-bit numbers -/
def U16sAt (w : World) (oa : Option Addr) (n : Nat) (k : Nat → Nat) : Prop :=
  ∀ i, i < n → k i < 65536 ∧ ∃ b off, oa = some ⟨b, off, none⟩ ∧ b < w.heap.size ∧ w.cell? ⟨b, off + i, none⟩ = some (.int .u16 (k i : Nat))
theorem U16sAt.mono {w w' : World} {oa : Option Addr} {n : Nat} {t : Nat → Nat} (h : U16sAt w oa n t) (hb : Below w.heap.size w w') : U16sAt w' oa n t := fun i hi => by
  obtain ⟨hk, b, off, ha, hlt, h0⟩ := h i hi
  exact ⟨hk, b, off, ha, Nat.lt_of_lt_of_le hlt hb.size, (hb.cell (p := ⟨b, off + i, none⟩) hlt).trans h0⟩
def u16Of (w : World) (oa : Option Addr) (i : Nat) : Nat := match oa with
  | some a => (cellInt w a i).toNat
  | none => 0
set_option maxRecDepth 100000 in
theorem open_u16s {v : Value} {d : DataW H} {p : List MemPlace} {r : Reach} {b0 : Nat} (hv : Value.okWide Try.prog w r b0 48 v) (h : DataW.Trod enc Try.prog w base spare held 48 v d p) :
    ∃ oa n cap, v = .slice oa n cap ∧ U16sAt w oa n (u16Of w oa) := by
  obtain ⟨a0, len, cap, rfl⟩ := okWide_slice Try.underlying48 hv
  obtain ⟨fuel, h⟩ := h
  rcases open_slice Try.underlying48 h with ⟨h0, _⟩ | ⟨a, len', cap', m, n, D, Pl, hcs, hb, hl, hm, hmm, hx, hi⟩
  · simp [Value.cells] at h0
    obtain ⟨rfl, rfl, rfl⟩ := h0
    exact ⟨none, 0, 0, rfl, fun i hi => by omega⟩
  · simp [Value.cells] at hcs
    obtain ⟨rfl, rfl, rfl⟩ := hcs
    refine ⟨some a, len, cap, rfl, fun i hlt => ?_⟩
    have hlm : len ≤ m := by rw [hmm]; split <;> omega
    have cell : ∀ i, i < len → (∃ v, w.cell? ((a.add (i * 1)).add 0) = some v) ∧ ∃ b : Nat, b < 65536 ∧ w.cell? ⟨a.block, a.off + (i * 1 + 0), none⟩ = some (.int .u16 (b : Nat)) := fun i hi9 => by
      obtain ⟨cs, hc, ht⟩ := hi i (by omega)
      rw [show Try.prog.cellsOf 47 = 1 by kernel_rfl] at hc
      obtain ⟨n', e, _, hw⟩ := DataW.trod_int Try.underlying47 ht
      obtain ⟨b, rfl, hb⟩ := wf_u16 hw
      obtain ⟨_, hcl, hat⟩ := World.cells?_some hc
      subst e
      exact ⟨⟨_, hat 0 (by omega)⟩, b, hb, at_cell hat (i := 0) (by omega) rfl⟩
    obtain ⟨⟨v, hv⟩, -⟩ := cell 0 (by omega)
    obtain ⟨-, b, hb9, h0⟩ := cell i hlt
    have h1 : w.cell? ⟨a.block, a.off + i, none⟩ = some (.int .u16 (b : Nat)) := by simpa using h0
    have e : u16Of w (some a) i = b := by
      show (cellInt w a i).toNat = b
      rw [cellInt_of h1]; simp
    rw [e]
    exact ⟨hb9, a.block, a.off, addr_eta (cell_zero hv), cell_lt h1, h1⟩
end
end Go.Proofs.Ytckagcbjcpfjpaa
