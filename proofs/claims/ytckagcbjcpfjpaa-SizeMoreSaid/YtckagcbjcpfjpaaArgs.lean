/- How the arguments of this seat's laws lie: a house, a list of sizes, one size, one rule. -/
import Derived.Test.YtckagcbjcpfjpaaSizes
import Derived.Carry
import Derived.ChangeSame
import Derived.OpenShut
import Derived.Deep.Slices
import Derived.Deep.Fields
import Derived.Lib.SmallJoins
namespace Go.Proofs.Ytckagcbjcpfjpaa
open Go.RowKit Go.WideShapes Go.ChangeShapes Go.Joins Go.Deep
section
variable {H : Type} {enc : TypeId × Value → H} {w : World} {base : Nat} {spare : Nat → Bool} {held : Bool}
/-- the integer of a cell -/
def cellInt (w : World) (a : Addr) (i : Nat) : Int := match w.cell? ⟨a.block, a.off + i, none⟩ with
  | some (.int _ n) => n
  | _ => 0
theorem cellInt_of {w : World} {a : Addr} {i : Nat} {k : IntKind} {n : Int} (h : w.cell? ⟨a.block, a.off + i, none⟩ = some (.int k n)) : cellInt w a i = n := by
  unfold cellInt; rw [h]
theorem cell_self {w : World} {a : Addr} {i : Nat} {k : IntKind} {n : Int} (h : w.cell? ⟨a.block, a.off + i, none⟩ = some (.int k n)) : w.cell? ⟨a.block, a.off + i, none⟩ = some (.int k (cellInt w a i)) := by
  rw [cellInt_of h]; exact h
theorem cell_lt {w : World} {b off : Nat} {v : Value} (h : w.cell? ⟨b, off, none⟩ = some v) : b < w.heap.size := by
  unfold World.cell? at h
  rcases Nat.lt_or_ge b w.heap.size with hl | hl
  · exact hl
  · rw [Array.getElem?_eq_none hl] at h
    cases h
theorem spot_none {w : World} {a : Addr} {v : Value} (h : w.cell? a = some v) : a.spot = none := by
  cases hs : a.spot with
  | none => rfl
  | some s =>
    unfold World.cell? at h
    rw [hs] at h
    split at h <;> simp at h
theorem cell_add {w : World} {a : Addr} {i : Nat} {v : Value} (h : w.cell? (a.add i) = some v) : w.cell? ⟨a.block, a.off + i, none⟩ = some v := by
  unfold Addr.add at h
  split at h
  · rename_i h0
    have := spot_none h
    obtain ⟨b, o, s⟩ := a
    subst h0
    simp only at this
    subst this
    exact h
  · exact h
theorem open_i64 {fuel : Nat} {c : Value} {x : DataW H × List MemPlace} (h : DataW.trod enc Try.prog w base spare held fuel 3 [c] = some x) : ∃ n, c = .int .i64 n ∧ (Lit.int .i64 n).wf = true := by
  obtain ⟨n, hc, _, hw⟩ := DataW.trod_int Try.underlying3 h
  exact ⟨n, by simpa using hc, hw⟩
theorem take1 {cs : List Value} {n i : Nat} (hl : cs.length = n) (hi : i < n) : (cs.drop i).take 1 = [cs[i]'(by omega)] := by
  rw [List.drop_eq_getElem_cons (by omega)]; rfl
/-- the cells of a struct of integers -/
theorem cells_ints {a : Addr} {n : Nat} {cs : List Value} (hc : w.cells? base a n = some cs) {i : Nat} (hi : i < n) {v : Value} (hv : (cs.drop i).take 1 = [v]) : w.cell? (a.add i) = some v := by
  obtain ⟨_, hl, hat⟩ := World.cells?_some hc
  rw [hat i hi]
  rw [take1 hl hi] at hv
  rw [List.getElem?_eq_getElem (by omega)]
  simpa using hv
def tapOf (w : World) (oa : Option Addr) (i : Nat) : Tap := match oa with
  | some a => ⟨cellInt w a (i * 3), cellInt w a (i * 3 + 1), cellInt w a (i * 3 + 2)⟩
  | none => ⟨0, 0, 0⟩
def ruleOf (w : World) (oa : Option Addr) (i : Nat) : Rule := match oa with
  | some a => ⟨cellInt w a (i * 2), cellInt w a (i * 2 + 1)⟩
  | none => ⟨0, 0⟩
def meterOf (w : World) (oa : Option Addr) (i : Nat) : Meter := match oa with
  | some a => ⟨cellInt w a (i * 4), cellInt w a (i * 4 + 1), cellInt w a (i * 4 + 2), cellInt w a (i * 4 + 3)⟩
  | none => ⟨0, 0, 0, 0⟩
theorem add_add' (a : Addr) (i j : Nat) : (a.add i).add j = a.add (i + j) := Go.Deep.add_add a i j
theorem field_int {fuel i : Nat} {L : List Value} {xs : List (DataW H × List MemPlace)} (h : DataW.trod enc Try.prog w base spare held fuel 3 L = xs[i]?) (hi : i < xs.length) : ∃ n, L = [.int .i64 n] ∧ (Lit.int .i64 n).wf = true := by
  rw [List.getElem?_eq_getElem hi] at h
  obtain ⟨n, hc, _, hw⟩ := DataW.trod_int Try.underlying3 h
  exact ⟨n, hc, hw⟩
theorem cellsOf3 : Try.prog.cellsOf 3 = 1 := by kernel_rfl
theorem cellsOf31 : Try.prog.cellsOf 31 = 2 := by kernel_rfl
theorem cellsOf52 : Try.prog.cellsOf 52 = 3 := by kernel_rfl
theorem cellsOf65 : Try.prog.cellsOf 65 = 2 := by kernel_rfl
theorem cellsOf27 : Try.prog.cellsOf 27 = 4 := by kernel_rfl
theorem at_cell {a : Addr} {n i j : Nat} {cs : List Value} {v : Value} (hat : ∀ i, i < n → w.cell? ((a.add j).add i) = cs[i]?) (hi : i < n) (hv : cs[i]? = some v) : w.cell? ⟨a.block, a.off + (j + i), none⟩ = some v :=
  cell_add (by rw [← add_add', hat i hi, hv])
theorem cell_zero {w : World} {a : Addr} {v : Value} {k : Nat} (h : w.cell? ((a.add (0 * k)).add 0) = some v) : a.spot = none := by
  rw [Nat.zero_mul, add_add'] at h
  exact spot_none h
theorem addr_eta {a : Addr} (h : a.spot = none) : some a = some ⟨a.block, a.off, none⟩ := by
  obtain ⟨b, o, s⟩ := a
  simp only at h
  subst h
  rfl
theorem off3 {w : World} {b off i : Nat} {v : Value} {q k : Nat} (h : w.cell? ⟨b, off + (q + i), none⟩ = some v) (hk : k = q + i) : w.cell? ⟨b, off + k, none⟩ = some v := by rw [hk]; exact h
set_option maxRecDepth 100000 in
theorem tap_cells {fuel : Nat} {a : Addr} {i : Nat} {cs : List Value} {x : DataW H × List MemPlace} (hc : w.cells? base (a.add (i * 3)) 3 = some cs) (ht : DataW.trod enc Try.prog w base spare held fuel 52 cs = some x) :
    (∃ v, w.cell? ((a.add (i * 3)).add 0) = some v) ∧ ∃ x y z : Int, w.cell? ⟨a.block, a.off + (i * 3 + 0), none⟩ = some (.int .i64 x) ∧ w.cell? ⟨a.block, a.off + (i * 3 + 1), none⟩ = some (.int .i64 y) ∧ w.cell? ⟨a.block, a.off + (i * 3 + 2), none⟩ = some (.int .i64 z) := by
  obtain ⟨xs, n1, _, _, _, hlen, hg⟩ := DataW.trod_struct Try.underlying52 ht
  have hlen2 : xs.length = 2 := hlen
  have t0 := hg 0 _ rfl
  have t1 := hg 1 _ rfl
  rw [List.getElem?_eq_getElem (by omega)] at t0
  obtain ⟨ys, n2, _, _, _, hlen', hg'⟩ := DataW.trod_struct Try.underlying31 t0
  have hlen3 : ys.length = 2 := hlen'
  obtain ⟨v0, e0, _⟩ := field_int (hg' 0 _ rfl) (by omega)
  obtain ⟨v1, e1, _⟩ := field_int (hg' 1 _ rfl) (by omega)
  obtain ⟨v2, e2, _⟩ := field_int t1 (by omega)
  obtain ⟨_, hcl, hat⟩ := World.cells?_some hc
  match cs, hcl with
  | [c0, c1, c2], _ =>
    simp [cellsOf3, cellsOf31] at e0 e1 e2
    subst e0 e1 e2
    exact ⟨⟨_, hat 0 (by omega)⟩, v0, v1, v2, at_cell hat (i := 0) (by omega) rfl, at_cell hat (i := 1) (by omega) rfl, at_cell hat (i := 2) (by omega) rfl⟩
set_option maxRecDepth 100000 in
theorem open_taps {fuel : Nat} {c : Value} {x : DataW H × List MemPlace} (h : DataW.trod enc Try.prog w base spare held fuel 22 [c] = some x) :
    ∃ oa n cap, c = .slice oa n cap ∧ TapsAt w oa n (tapOf w oa) := by
  rcases open_slice Try.underlying22 h with ⟨h0, _⟩ | ⟨a, len, cap, m, n, D, Pl, hcs, hb, hl, hm, hmm, hx, hi⟩
  · exact ⟨none, 0, 0, by simpa using h0, fun i hi => by omega⟩
  · refine ⟨some a, len, cap, by simpa using hcs, fun i hlt => ?_⟩
    have hlm : len ≤ m := by rw [hmm]; split <;> omega
    obtain ⟨cs0, hc0, ht0⟩ := hi 0 (by omega)
    obtain ⟨cs, hc, ht⟩ := hi i (by omega)
    rw [cellsOf52] at hc hc0
    obtain ⟨⟨v, hv⟩, -⟩ := tap_cells hc0 ht0
    obtain ⟨-, x, y, z, h0, h1, h2⟩ := tap_cells hc ht
    refine ⟨a.block, a.off, addr_eta (cell_zero hv), cell_lt h0, ?_, ?_, ?_⟩
    · exact cell_self h0
    · exact cell_self h1
    · exact cell_self h2
set_option maxRecDepth 100000 in
theorem rule_cells {fuel : Nat} {a : Addr} {i : Nat} {cs : List Value} {x : DataW H × List MemPlace} (hc : w.cells? base (a.add (i * 2)) 2 = some cs) (ht : DataW.trod enc Try.prog w base spare held fuel 65 cs = some x) :
    (∃ v, w.cell? ((a.add (i * 2)).add 0) = some v) ∧ ∃ x y : Int, w.cell? ⟨a.block, a.off + (i * 2 + 0), none⟩ = some (.int .i64 x) ∧ w.cell? ⟨a.block, a.off + (i * 2 + 1), none⟩ = some (.int .i64 y) := by
  obtain ⟨xs, n1, _, _, _, hlen, hg⟩ := DataW.trod_struct Try.underlying65 ht
  have hlen2 : xs.length = 2 := hlen
  obtain ⟨v0, e0, _⟩ := field_int (hg 0 _ rfl) (by omega)
  obtain ⟨v1, e1, _⟩ := field_int (hg 1 _ rfl) (by omega)
  obtain ⟨_, hcl, hat⟩ := World.cells?_some hc
  match cs, hcl with
  | [c0, c1], _ =>
    simp [cellsOf3] at e0 e1
    subst e0 e1
    exact ⟨⟨_, hat 0 (by omega)⟩, v0, v1, at_cell hat (i := 0) (by omega) rfl, at_cell hat (i := 1) (by omega) rfl⟩
set_option maxRecDepth 100000 in
theorem open_rules {fuel : Nat} {c : Value} {x : DataW H × List MemPlace} (h : DataW.trod enc Try.prog w base spare held fuel 23 [c] = some x) :
    ∃ oa n cap, c = .slice oa n cap ∧ RulesAt w oa n (ruleOf w oa) := by
  rcases open_slice Try.underlying23 h with ⟨h0, _⟩ | ⟨a, len, cap, m, n, D, Pl, hcs, hb, hl, hm, hmm, hx, hi⟩
  · exact ⟨none, 0, 0, by simpa using h0, fun i hi => by omega⟩
  · refine ⟨some a, len, cap, by simpa using hcs, fun i hlt => ?_⟩
    have hlm : len ≤ m := by rw [hmm]; split <;> omega
    obtain ⟨cs0, hc0, ht0⟩ := hi 0 (by omega)
    obtain ⟨cs, hc, ht⟩ := hi i (by omega)
    rw [cellsOf65] at hc hc0
    obtain ⟨⟨v, hv⟩, -⟩ := rule_cells hc0 ht0
    obtain ⟨-, x, y, h0, h1⟩ := rule_cells hc ht
    refine ⟨a.block, a.off, addr_eta (cell_zero hv), cell_lt h0, ?_, ?_⟩
    · exact cell_self h0
    · exact cell_self h1
set_option maxRecDepth 100000 in
theorem meter_cells {fuel : Nat} {a : Addr} {i : Nat} {cs : List Value} {x : DataW H × List MemPlace} (hc : w.cells? base (a.add (i * 4)) 4 = some cs) (ht : DataW.trod enc Try.prog w base spare held fuel 27 cs = some x) :
    (∃ v, w.cell? ((a.add (i * 4)).add 0) = some v) ∧ ∃ x y z u : Int, w.cell? ⟨a.block, a.off + (i * 4 + 0), none⟩ = some (.int .i64 x) ∧ w.cell? ⟨a.block, a.off + (i * 4 + 1), none⟩ = some (.int .i64 y) ∧ w.cell? ⟨a.block, a.off + (i * 4 + 2), none⟩ = some (.int .i64 z) ∧ w.cell? ⟨a.block, a.off + (i * 4 + 3), none⟩ = some (.int .i64 u) := by
  obtain ⟨xs, n1, _, _, _, hlen, hg⟩ := DataW.trod_struct Try.underlying27 ht
  have hlen2 : xs.length = 4 := hlen
  obtain ⟨v0, e0, _⟩ := field_int (hg 0 _ rfl) (by omega)
  obtain ⟨v1, e1, _⟩ := field_int (hg 1 _ rfl) (by omega)
  obtain ⟨v2, e2, _⟩ := field_int (hg 2 _ rfl) (by omega)
  obtain ⟨v3, e3, _⟩ := field_int (hg 3 _ rfl) (by omega)
  obtain ⟨_, hcl, hat⟩ := World.cells?_some hc
  match cs, hcl with
  | [c0, c1, c2, c3], _ =>
    simp [cellsOf3] at e0 e1 e2 e3
    subst e0 e1 e2 e3
    exact ⟨⟨_, hat 0 (by omega)⟩, v0, v1, v2, v3, at_cell hat (i := 0) (by omega) rfl, at_cell hat (i := 1) (by omega) rfl, at_cell hat (i := 2) (by omega) rfl, at_cell hat (i := 3) (by omega) rfl⟩
set_option maxRecDepth 100000 in
theorem open_meters {fuel : Nat} {c : Value} {x : DataW H × List MemPlace} (h : DataW.trod enc Try.prog w base spare held fuel 38 [c] = some x) :
    ∃ oa n cap, c = .slice oa n cap ∧ MetersAt w oa n (meterOf w oa) := by
  rcases open_slice Try.underlying38 h with ⟨h0, _⟩ | ⟨a, len, cap, m, n, D, Pl, hcs, hb, hl, hm, hmm, hx, hi⟩
  · exact ⟨none, 0, 0, by simpa using h0, fun i hi => by omega⟩
  · refine ⟨some a, len, cap, by simpa using hcs, fun i hlt => ?_⟩
    have hlm : len ≤ m := by rw [hmm]; split <;> omega
    obtain ⟨cs0, hc0, ht0⟩ := hi 0 (by omega)
    obtain ⟨cs, hc, ht⟩ := hi i (by omega)
    rw [cellsOf27] at hc hc0
    obtain ⟨⟨v, hv⟩, -⟩ := meter_cells hc0 ht0
    obtain ⟨-, x, y, z, u, h0, h1, h2, h3⟩ := meter_cells hc ht
    refine ⟨a.block, a.off, addr_eta (cell_zero hv), cell_lt h0, ?_, ?_, ?_, ?_⟩
    · exact cell_self h0
    · exact cell_self h1
    · exact cell_self h2
    · exact cell_self h3
set_option maxRecDepth 100000 in
/-- an argument that is a house -/
theorem open_house {r : Reach} {b0 : Nat} {v : Value} {d : DataW H} {p : List MemPlace} (hv : Value.okWide Try.prog w r b0 25 v) (h : DataW.Trod enc Try.prog w base spare held 25 v d p) :
    ∃ (x : House) (ta ra : Option Addr) (tc rc : Nat), v = houseV x ta ra tc rc ∧ TapsAt w ta x.nt x.t ∧ RulesAt w ra x.nr x.r := by
  obtain ⟨v0, v1, v2, v3, y0, y1, y2, y3, n, rfl, _, _, h0, h1, h2, h3⟩ := open_agg4 Try.underlying25 (by kernel_rfl) (by kernel_rfl) hv h
  obtain ⟨a, rfl, _⟩ := open_i64 h0
  obtain ⟨b, rfl, _⟩ := open_i64 h1
  obtain ⟨ta, nt, tc, rfl, hT⟩ := open_taps h2
  obtain ⟨ra, nr, rc, rfl, hR⟩ := open_rules h3
  exact ⟨⟨a, b, nt, tapOf w ta, nr, ruleOf w ra⟩, ta, ra, tc, rc, rfl, hT, hR⟩
set_option maxRecDepth 100000 in
theorem open_list {v : Value} {d : DataW H} {p : List MemPlace} {r : Reach} {b0 : Nat} (hv : Value.okWide Try.prog w r b0 38 v) (h : DataW.Trod enc Try.prog w base spare held 38 v d p) :
    ∃ oa n cap, v = .slice oa n cap ∧ MetersAt w oa n (meterOf w oa) := by
  obtain ⟨a0, len, cap, rfl⟩ := okWide_slice Try.underlying38 hv
  obtain ⟨fuel, h⟩ := h
  exact (open_meters h).elim fun oa ⟨n, c, e, hM⟩ => ⟨oa, n, c, e, hM⟩
set_option maxRecDepth 100000 in
theorem open_int {v : Value} {r : Reach} {b0 : Nat} (hv : Value.okWide Try.prog w r b0 3 v) : ∃ n, v = .int .i64 n := okWide_int Try.underlying3 hv
set_option maxRecDepth 100000 in
theorem open_meter {r : Reach} {b0 : Nat} {v : Value} {d : DataW H} {p : List MemPlace} (hv : Value.okWide Try.prog w r b0 27 v) (h : DataW.Trod enc Try.prog w base spare held 27 v d p) :
    ∃ m : Meter, v = m.val := by
  obtain ⟨v0, v1, v2, v3, y0, y1, y2, y3, n, rfl, _, _, h0, h1, h2, h3⟩ := open_agg4 Try.underlying27 (by kernel_rfl) (by kernel_rfl) hv h
  obtain ⟨a, rfl, _⟩ := open_i64 h0
  obtain ⟨b, rfl, _⟩ := open_i64 h1
  obtain ⟨c, rfl, _⟩ := open_i64 h2
  obtain ⟨e, rfl, _⟩ := open_i64 h3
  exact ⟨⟨a, b, c, e⟩, rfl⟩
end
end Go.Proofs.Ytckagcbjcpfjpaa
