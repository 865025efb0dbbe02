/- How a house and a list of sizes lie, and that those without a block are empty. -/
import Derived.Test.YtckagcbjcpfjpaaArgs2
namespace Go.Proofs.Ytckagcbjcpfjpaa
open Go.RowKit Go.WideShapes Go.ChangeShapes Go.Joins Go.Deep
section
variable {H : Type} {enc : TypeId × Value → H} {w : World} {base : Nat} {spare : Nat → Bool} {held : Bool}
theorem nil_zero {t e : TypeId} (ht : Try.prog.underlying t = some (.slice e)) {fuel n c : Nat} {oa : Option Addr} {x : DataW H × List MemPlace} (h : DataW.trod enc Try.prog w base spare held fuel t [.slice oa n c] = some x) (hn : oa = none) : n = 0 ∧ c = 0 := by
  subst hn
  rcases open_slice ht h with ⟨h0, _⟩ | ⟨a, len, cap, m, n, D, Pl, hcs, _⟩
  · simpa using h0
  · simp at hcs
set_option maxRecDepth 100000 in
/-- an argument that is a house -/
theorem open_house3 {r : Reach} {b0 : Nat} {v : Value} {d : DataW H} {p : List MemPlace} (hv : Value.okWide Try.prog w r b0 25 v) (h : DataW.Trod enc Try.prog w base spare held 25 v d p) :
    ∃ (x : House) (ta ra : Option Addr) (tc rc : Nat), v = houseV x ta ra tc rc ∧ TapsAt w ta x.nt x.t ∧ RulesAt w ra x.nr x.r ∧ (ta = none → x.nt = 0 ∧ tc = 0) ∧ (ra = none → x.nr = 0 ∧ rc = 0) := by
  obtain ⟨v0, v1, v2, v3, y0, y1, y2, y3, n, rfl, _, _, h0, h1, h2, h3⟩ := open_agg4 Try.underlying25 (by kernel_rfl) (by kernel_rfl) hv h
  obtain ⟨a, rfl, _⟩ := open_i64 h0
  obtain ⟨b, rfl, _⟩ := open_i64 h1
  obtain ⟨ta, nt, tc, rfl, hT⟩ := open_taps h2
  obtain ⟨ra, nr, rc, rfl, hR⟩ := open_rules h3
  exact ⟨⟨a, b, nt, tapOf w ta, nr, ruleOf w ra⟩, ta, ra, tc, rc, rfl, hT, hR, nil_zero Try.underlying22 h2, nil_zero Try.underlying23 h3⟩
set_option maxRecDepth 100000 in
theorem open_list3 {v : Value} {d : DataW H} {p : List MemPlace} {r : Reach} {b0 : Nat} (hv : Value.okWide Try.prog w r b0 38 v) (h : DataW.Trod enc Try.prog w base spare held 38 v d p) :
    ∃ oa n cap, v = .slice oa n cap ∧ MetersAt w oa n (meterOf w oa) ∧ (oa = none → n = 0 ∧ cap = 0) := by
  obtain ⟨a0, len, cap, rfl⟩ := okWide_slice Try.underlying38 hv
  obtain ⟨fuel, h⟩ := h
  obtain ⟨oa, n, c, e, hM⟩ := open_meters h
  exact ⟨oa, n, c, e, hM, by
    have e' : (Value.slice a0 len cap) = .slice oa n c := e
    cases e'
    exact nil_zero Try.underlying38 h⟩
end
end Go.Proofs.Ytckagcbjcpfjpaa
