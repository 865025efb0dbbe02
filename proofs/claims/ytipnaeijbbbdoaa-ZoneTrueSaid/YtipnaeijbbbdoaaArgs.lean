/- The row's last step of a law that returns true and changes nothing old. How the arguments of this seat's laws lie: zones, nights, numbers and lists of them. -/
import Derived.Carry
import Derived.ChangeSame
import Derived.WalkKit
import Derived.OpenShut
import Derived.Test.YtipnaeijbbbdoaaU16
import Derived.Deep.Slices
import Derived.Deep.Fields
import Derived.Lib.SmallJoins
namespace Go.Proofs.Ytipnaeijbbbdoaa
open Go.RowKit Go.WideShapes Go.ChangeShapes
section
variable {H : Type} {enc : TypeId × Value → H} {P : Program}
/-- all arguments read as they did -/
theorem args_stay (hl : laidOutB P = true) {W W' : World} (hb : Below W.heap.size W W') (sp : Nat → Bool) :
    ∀ {ts : List TypeId} {vs : List Value} {ds : List (DataW H)} {ps : List MemPlace}, ts.all (fun t => P.readableRec t && decide (t < P.types.size)) = true → DataW.TrodAll enc P W 0 (fun _ => true) true ts vs ds ps →
      (∀ x ∈ ps, x.block < W.heap.size) → (∀ x ∈ ps, sp x.block = true) → DataW.TrodAll enc P W' 0 sp true ts vs ds ps
  | [], vs, ds, ps, _, h, _, _ => by cases vs <;> cases ds <;> exact h
  | t :: ts, vs, ds, ps, ht, h, hlt, hsp => by
    obtain ⟨v, vs', d, ds', p, q, rfl, rfl, rfl, h0, h1⟩ := trodAll_cons h
    simp only [List.all_cons, Bool.and_eq_true, decide_eq_true_eq] at ht
    exact ⟨p, q, WideElems.Trod_stays hl ht.1.1 ht.1.2 h0 (fun x hx => hb.same (hlt x (by simp [hx]))) (fun x hx => hsp x (by simp [hx])),
      args_stay hl hb sp (by simpa using ht.2) h1 (fun x hx => hlt x (by simp [hx])) (fun x hx => hsp x (by simp [hx])), rfl⟩
/-- one bool comes out, nothing old has changed: the post of a law without named variables -/
theorem true_row {f : Func} {s : ChangeSpec} {W W' : World} {args : Array Value} {ds gs : List (DataW H)} {before : List MemPlace} (hl : laidOutB P = true)
    (hv : s.vars = []) (hr : f.resultTypes = #[4]) (hu : P.underlying 4 = some .bool) (hp : f.params.toList.all (fun t => P.readableRec t && decide (t < P.types.size)) = true)
    (hs : s.fn H (ds ++ gs) = { results := [.lit (.bool true)], args := ds })
    (hW : DataW.Whole enc P f.params.toList s.vars false W args.toList ds gs before) (hb : Below W.heap.size W W') :
    s.post enc P f false true false false W args (.bool true) W' := by
  have hlt : ∀ x ∈ before, x.block < W.heap.size := fun x hx => hW.lt x hx
  have hW0 := hW
  obtain ⟨p, q, hA, hV, he, _, _⟩ := hW
  have hV' := hV
  rw [hv] at hV'
  obtain ⟨rfl, rfl⟩ := trodVars_none hV'
  obtain rfl : before = p := by simpa using he
  refine ⟨ds, [], before, [], before, [], hW0, ?_, ?_, ?_, World.keptBut_mono (fun x hx => ⟨hx, Or.inr (Or.inl hx)⟩) (hb.frame (· ∈ before)), fun h => by cases h⟩
  · rw [hs, hr]
    exact trodAll_cons_mk (shut_bool hu true) trodAll_mk0
  · rw [hs]
    exact args_stay hl hb _ hp hA hlt (fun x hx => by simpa using hlt x hx)
  · rw [hs, hv]
    rfl
end
end Go.Proofs.Ytipnaeijbbbdoaa
namespace Go.Proofs.Ytipnaeijbbbdoaa
open Go.RowKit Go.WideShapes Go.ChangeShapes Go.Joins Go.Deep
section
variable {H : Type} {enc : TypeId × Value → H} {w : World} {base : Nat} {spare : Nat → Bool} {held : Bool}
/-- the integer of a cell -/
def cellInt (w : World) (a : Addr) (i : Nat) : Int := match w.cell? ⟨a.block, a.off + i, none⟩ with
  | some (.int _ n) => n
  | _ => 0
theorem cellInt_of {w : World} {a : Addr} {i : Nat} {k : IntKind} {n : Int} (h : w.cell? ⟨a.block, a.off + i, none⟩ = some (.int k n)) : cellInt w a i = n := by
  unfold cellInt; rw [h]
theorem cell_self {w : World} {a : Addr} {i : Nat} {k : IntKind} {n : Int} (h : w.cell? ⟨a.block, a.off + i, none⟩ = some (.int k n)) : w.cell? ⟨a.block, a.off + i, none⟩ = some (.int k (cellInt w a i)) := by
  rw [cellInt_of h]; exact h
theorem cell_lt {w : World} {b off : Nat} {v : Value} (h : w.cell? ⟨b, off, none⟩ = some v) : b < w.heap.size := by
  unfold World.cell? at h
  rcases Nat.lt_or_ge b w.heap.size with hl | hl
  · exact hl
  · rw [Array.getElem?_eq_none hl] at h
    cases h
theorem spot_none {w : World} {a : Addr} {v : Value} (h : w.cell? a = some v) : a.spot = none := by
  cases hs : a.spot with
  | none => rfl
  | some s =>
    unfold World.cell? at h
    rw [hs] at h
    split at h <;> simp at h
theorem cell_add {w : World} {a : Addr} {i : Nat} {v : Value} (h : w.cell? (a.add i) = some v) : w.cell? ⟨a.block, a.off + i, none⟩ = some v := by
  unfold Addr.add at h
  split at h
  · rename_i h0
    have := spot_none h
    obtain ⟨b, o, s⟩ := a
    subst h0
    simp only at this
    subst this
    exact h
  · exact h
theorem open_i64 {fuel : Nat} {c : Value} {x : DataW H × List MemPlace} (h : DataW.trod enc Try.prog w base spare held fuel 3 [c] = some x) : ∃ n, c = .int .i64 n ∧ (Lit.int .i64 n).wf = true := by
  obtain ⟨n, hc, _, hw⟩ := DataW.trod_int Try.underlying3 h
  exact ⟨n, by simpa using hc, hw⟩
theorem take1 {cs : List Value} {n i : Nat} (hl : cs.length = n) (hi : i < n) : (cs.drop i).take 1 = [cs[i]'(by omega)] := by
  rw [List.drop_eq_getElem_cons (by omega)]; rfl
/-- the cells of a struct of integers -/
theorem cells_ints {a : Addr} {n : Nat} {cs : List Value} (hc : w.cells? base a n = some cs) {i : Nat} (hi : i < n) {v : Value} (hv : (cs.drop i).take 1 = [v]) : w.cell? (a.add i) = some v := by
  obtain ⟨_, hl, hat⟩ := World.cells?_some hc
  rw [hat i hi]
  rw [take1 hl hi] at hv
  rw [List.getElem?_eq_getElem (by omega)]
  simpa using hv
theorem add_add' (a : Addr) (i j : Nat) : (a.add i).add j = a.add (i + j) := Go.Deep.add_add a i j
theorem field_int {fuel i : Nat} {L : List Value} {xs : List (DataW H × List MemPlace)} (h : DataW.trod enc Try.prog w base spare held fuel 3 L = xs[i]?) (hi : i < xs.length) : ∃ n, L = [.int .i64 n] ∧ (Lit.int .i64 n).wf = true := by
  rw [List.getElem?_eq_getElem hi] at h
  obtain ⟨n, hc, _, hw⟩ := DataW.trod_int Try.underlying3 h
  exact ⟨n, hc, hw⟩
theorem cellsOf3 : Try.prog.cellsOf 3 = 1 := by kernel_rfl
theorem cellsOf41 : Try.prog.cellsOf 41 = 2 := by kernel_rfl
theorem cellsOf48 : Try.prog.cellsOf 48 = 9 := by kernel_rfl
theorem cellsOf54 : Try.prog.cellsOf 54 = 6 := by kernel_rfl
theorem at_cell {a : Addr} {n i j : Nat} {cs : List Value} {v : Value} (hat : ∀ i, i < n → w.cell? ((a.add j).add i) = cs[i]?) (hi : i < n) (hv : cs[i]? = some v) : w.cell? ⟨a.block, a.off + (j + i), none⟩ = some v :=
  cell_add (by rw [← add_add', hat i hi, hv])
theorem cell_zero {w : World} {a : Addr} {v : Value} {k : Nat} (h : w.cell? ((a.add (0 * k)).add 0) = some v) : a.spot = none := by
  rw [Nat.zero_mul, add_add'] at h
  exact spot_none h
theorem addr_eta {a : Addr} (h : a.spot = none) : some a = some ⟨a.block, a.off, none⟩ := by
  obtain ⟨b, o, s⟩ := a
  simp only at h
  subst h
  rfl
set_option maxRecDepth 100000 in
/-- two integers in a struct -/
theorem span_parts {fuel : Nat} {cs : List Value} {x : DataW H × List MemPlace} (ht : DataW.trod enc Try.prog w base spare held fuel 41 cs = some x) (c0 c1 : Value) (hcs : cs = [c0, c1]) : ∃ x y : Int, c0 = .int .i64 x ∧ c1 = .int .i64 y := by
  obtain ⟨xs, n1, _, _, _, hlen, hg⟩ := DataW.trod_struct Try.underlying41 ht
  have hlen2 : xs.length = 2 := hlen
  obtain ⟨v0, e0, _⟩ := field_int (hg 0 _ rfl) (by omega)
  obtain ⟨v1, e1, _⟩ := field_int (hg 1 _ rfl) (by omega)
  subst hcs
  simp [cellsOf3] at e0 e1
  exact ⟨v0, v1, e0, e1⟩
set_option maxRecDepth 100000 in
theorem zones_cells {fuel : Nat} {a : Addr} {i : Nat} {cs : List Value} {x : DataW H × List MemPlace} (hc : w.cells? base (a.add (i * 9)) 9 = some cs) (ht : DataW.trod enc Try.prog w base spare held fuel 48 cs = some x) :
    (∃ v, w.cell? ((a.add (i * 9)).add 0) = some v) ∧ ∃ y0 y1 y2 y3 y4 y5 y6 y7 y8 : Int, w.cell? ⟨a.block, a.off + (i * 9 + 0), none⟩ = some (.int .i64 y0) ∧ w.cell? ⟨a.block, a.off + (i * 9 + 1), none⟩ = some (.int .i64 y1) ∧ w.cell? ⟨a.block, a.off + (i * 9 + 2), none⟩ = some (.int .i64 y2) ∧ w.cell? ⟨a.block, a.off + (i * 9 + 3), none⟩ = some (.int .i64 y3) ∧ w.cell? ⟨a.block, a.off + (i * 9 + 4), none⟩ = some (.int .i64 y4) ∧ w.cell? ⟨a.block, a.off + (i * 9 + 5), none⟩ = some (.int .i64 y5) ∧ w.cell? ⟨a.block, a.off + (i * 9 + 6), none⟩ = some (.int .i64 y6) ∧ w.cell? ⟨a.block, a.off + (i * 9 + 7), none⟩ = some (.int .i64 y7) ∧ w.cell? ⟨a.block, a.off + (i * 9 + 8), none⟩ = some (.int .i64 y8) := by
  obtain ⟨xs, n1, _, _, _, hlen, hg⟩ := DataW.trod_struct Try.underlying48 ht
  have hlen2 : xs.length = 5 := hlen
  have t0 := hg 0 _ rfl
  have t1 := hg 1 _ rfl
  have t2 := hg 2 _ rfl
  have t3 := hg 3 _ rfl
  rw [List.getElem?_eq_getElem (by omega)] at t0 t1 t2 t3
  obtain ⟨v9, e9, _⟩ := field_int (hg 4 _ rfl) (by omega)
  obtain ⟨_, hcl, hat⟩ := World.cells?_some hc
  match cs, hcl with
  | [c0, c1, c2, c3, c4, c5, c6, c7, c8], _ =>
    simp [cellsOf3, cellsOf41] at t0 t1 t2 t3 e9
    obtain ⟨y0, y1, rfl, rfl⟩ := span_parts t0 _ _ rfl
    obtain ⟨y2, y3, rfl, rfl⟩ := span_parts t1 _ _ rfl
    obtain ⟨y4, y5, rfl, rfl⟩ := span_parts t2 _ _ rfl
    obtain ⟨y6, y7, rfl, rfl⟩ := span_parts t3 _ _ rfl
    subst e9
    exact ⟨⟨_, hat 0 (by omega)⟩, y0, y1, y2, y3, y4, y5, y6, y7, v9, at_cell hat (i := 0) (by omega) rfl, at_cell hat (i := 1) (by omega) rfl, at_cell hat (i := 2) (by omega) rfl, at_cell hat (i := 3) (by omega) rfl, at_cell hat (i := 4) (by omega) rfl, at_cell hat (i := 5) (by omega) rfl, at_cell hat (i := 6) (by omega) rfl, at_cell hat (i := 7) (by omega) rfl, at_cell hat (i := 8) (by omega) rfl⟩
def zonOf (w : World) (oa : Option Addr) (i : Nat) : Zon := match oa with
  | some a => ⟨⟨cellInt w a (i * 9 + 0), cellInt w a (i * 9 + 1)⟩, ⟨cellInt w a (i * 9 + 2), cellInt w a (i * 9 + 3)⟩, ⟨cellInt w a (i * 9 + 4), cellInt w a (i * 9 + 5)⟩, ⟨cellInt w a (i * 9 + 6), cellInt w a (i * 9 + 7)⟩, cellInt w a (i * 9 + 8)⟩
  | none => ⟨⟨0, 0⟩, ⟨0, 0⟩, ⟨0, 0⟩, ⟨0, 0⟩, 0⟩
set_option maxRecDepth 100000 in
theorem open_zones {v : Value} {d : DataW H} {p : List MemPlace} {r : Reach} {b0 : Nat} (hv : Value.okWide Try.prog w r b0 22 v) (h : DataW.Trod enc Try.prog w base spare held 22 v d p) :
    ∃ oa n cap, v = .slice oa n cap ∧ ZonsAt w oa n (zonOf w oa) ∧ n ≤ cap ∧ n ≤ 9223372036854775807 := by
  obtain ⟨a0, len, cap, rfl⟩ := okWide_slice Try.underlying22 hv
  obtain ⟨fuel, h⟩ := h
  rcases open_slice Try.underlying22 h with ⟨h0, _⟩ | ⟨a, len', cap', m, n, D, Pl, hcs, hb, hl, hm, hmm, hx, hi⟩
  · simp [Value.cells] at h0
    obtain ⟨rfl, rfl, rfl⟩ := h0
    exact ⟨none, 0, 0, rfl, fun i hi => by omega, by omega, by omega⟩
  · simp [Value.cells] at hcs
    obtain ⟨rfl, rfl, rfl⟩ := hcs
    refine ⟨some a, len, cap, rfl, fun i hlt => ?_, hl, by unfold maxLen at hm; omega⟩
    have hlm : len ≤ m := by rw [hmm]; split <;> omega
    obtain ⟨cs0, hc0, ht0⟩ := hi 0 (by omega)
    obtain ⟨cs, hc, ht⟩ := hi i (by omega)
    rw [cellsOf48] at hc hc0
    obtain ⟨⟨v, hv⟩, -⟩ := zones_cells hc0 ht0
    obtain ⟨-, y0, y1, y2, y3, y4, y5, y6, y7, y8, h0, h1, h2, h3, h4, h5, h6, h7, h8⟩ := zones_cells hc ht
    exact ⟨a.block, a.off, addr_eta (cell_zero hv), cell_lt h0, cell_self h0, cell_self h1, cell_self h2, cell_self h3, cell_self h4, cell_self h5, cell_self h6, cell_self h7, cell_self h8⟩
set_option maxRecDepth 100000 in
theorem nights_cells {fuel : Nat} {a : Addr} {i : Nat} {cs : List Value} {x : DataW H × List MemPlace} (hc : w.cells? base (a.add (i * 6)) 6 = some cs) (ht : DataW.trod enc Try.prog w base spare held fuel 54 cs = some x) :
    (∃ v, w.cell? ((a.add (i * 6)).add 0) = some v) ∧ ∃ y0 y1 y2 y3 y4 y5 : Int, w.cell? ⟨a.block, a.off + (i * 6 + 0), none⟩ = some (.int .i64 y0) ∧ w.cell? ⟨a.block, a.off + (i * 6 + 1), none⟩ = some (.int .i64 y1) ∧ w.cell? ⟨a.block, a.off + (i * 6 + 2), none⟩ = some (.int .i64 y2) ∧ w.cell? ⟨a.block, a.off + (i * 6 + 3), none⟩ = some (.int .i64 y3) ∧ w.cell? ⟨a.block, a.off + (i * 6 + 4), none⟩ = some (.int .i64 y4) ∧ w.cell? ⟨a.block, a.off + (i * 6 + 5), none⟩ = some (.int .i64 y5) := by
  obtain ⟨xs, n1, _, _, _, hlen, hg⟩ := DataW.trod_struct Try.underlying54 ht
  have hlen2 : xs.length = 3 := hlen
  have t0 := hg 0 _ rfl
  have t1 := hg 1 _ rfl
  have t2 := hg 2 _ rfl
  rw [List.getElem?_eq_getElem (by omega)] at t0 t1 t2
  obtain ⟨_, hcl, hat⟩ := World.cells?_some hc
  match cs, hcl with
  | [c0, c1, c2, c3, c4, c5], _ =>
    simp [cellsOf41] at t0 t1 t2
    obtain ⟨y0, y1, rfl, rfl⟩ := span_parts t0 _ _ rfl
    obtain ⟨y2, y3, rfl, rfl⟩ := span_parts t1 _ _ rfl
    obtain ⟨y4, y5, rfl, rfl⟩ := span_parts t2 _ _ rfl
    exact ⟨⟨_, hat 0 (by omega)⟩, y0, y1, y2, y3, y4, y5, at_cell hat (i := 0) (by omega) rfl, at_cell hat (i := 1) (by omega) rfl, at_cell hat (i := 2) (by omega) rfl, at_cell hat (i := 3) (by omega) rfl, at_cell hat (i := 4) (by omega) rfl, at_cell hat (i := 5) (by omega) rfl⟩
def nigOf (w : World) (oa : Option Addr) (i : Nat) : Nig := match oa with
  | some a => ⟨⟨cellInt w a (i * 6 + 0), cellInt w a (i * 6 + 1)⟩, ⟨cellInt w a (i * 6 + 2), cellInt w a (i * 6 + 3)⟩, ⟨cellInt w a (i * 6 + 4), cellInt w a (i * 6 + 5)⟩⟩
  | none => ⟨⟨0, 0⟩, ⟨0, 0⟩, ⟨0, 0⟩⟩
set_option maxRecDepth 100000 in
theorem open_nights {v : Value} {d : DataW H} {p : List MemPlace} {r : Reach} {b0 : Nat} (hv : Value.okWide Try.prog w r b0 32 v) (h : DataW.Trod enc Try.prog w base spare held 32 v d p) :
    ∃ oa n cap, v = .slice oa n cap ∧ NigsAt w oa n (nigOf w oa) ∧ n ≤ cap ∧ n ≤ 9223372036854775807 := by
  obtain ⟨a0, len, cap, rfl⟩ := okWide_slice Try.underlying32 hv
  obtain ⟨fuel, h⟩ := h
  rcases open_slice Try.underlying32 h with ⟨h0, _⟩ | ⟨a, len', cap', m, n, D, Pl, hcs, hb, hl, hm, hmm, hx, hi⟩
  · simp [Value.cells] at h0
    obtain ⟨rfl, rfl, rfl⟩ := h0
    exact ⟨none, 0, 0, rfl, fun i hi => by omega, by omega, by omega⟩
  · simp [Value.cells] at hcs
    obtain ⟨rfl, rfl, rfl⟩ := hcs
    refine ⟨some a, len, cap, rfl, fun i hlt => ?_, hl, by unfold maxLen at hm; omega⟩
    have hlm : len ≤ m := by rw [hmm]; split <;> omega
    obtain ⟨cs0, hc0, ht0⟩ := hi 0 (by omega)
    obtain ⟨cs, hc, ht⟩ := hi i (by omega)
    rw [cellsOf54] at hc hc0
    obtain ⟨⟨v, hv⟩, -⟩ := nights_cells hc0 ht0
    obtain ⟨-, y0, y1, y2, y3, y4, y5, h0, h1, h2, h3, h4, h5⟩ := nights_cells hc ht
    exact ⟨a.block, a.off, addr_eta (cell_zero hv), cell_lt h0, cell_self h0, cell_self h1, cell_self h2, cell_self h3, cell_self h4, cell_self h5⟩
theorem wf_i64 {n : Int} (h : (Lit.int .i64 n).wf = true) : -9223372036854775808 ≤ n ∧ n ≤ 9223372036854775807 := by
  simp [Lit.wf, IntKind.min, IntKind.max, IntKind.bits, IntKind.signed] at h
  omega
theorem wf_u8 {n : Int} (h : (Lit.int .u8 n).wf = true) : ∃ b : Nat, n = (b : Int) ∧ b < 256 := by
  simp [Lit.wf, IntKind.min, IntKind.max, IntKind.bits, IntKind.signed] at h
  exact ⟨n.toNat, by omega, by omega⟩
set_option maxRecDepth 100000 in
theorem open_u8 {v : Value} {d : DataW H} {p : List MemPlace} {r : Reach} {b0 : Nat} (hv : Value.okWide Try.prog w r b0 5 v) (h : DataW.Trod enc Try.prog w base spare held 5 v d p) : ∃ b : Nat, v = .int .u8 (b : Nat) ∧ b < 256 := by
  obtain ⟨n, rfl⟩ := okWide_int Try.underlying5 hv
  obtain ⟨fuel, h⟩ := h
  obtain ⟨n', e, _, hw⟩ := DataW.trod_int Try.underlying5 h
  simp [Value.cells] at e
  subst e
  obtain ⟨b, rfl, hb⟩ := wf_u8 hw
  exact ⟨b, rfl, hb⟩
theorem wf_u16 {n : Int} (h : (Lit.int .u16 n).wf = true) : ∃ b : Nat, n = (b : Int) ∧ b < 65536 := by
  simp [Lit.wf, IntKind.min, IntKind.max, IntKind.bits, IntKind.signed] at h
  exact ⟨n.toNat, by omega, by omega⟩
def u16Of (w : World) (oa : Option Addr) (i : Nat) : Nat := match oa with
  | some a => (cellInt w a i).toNat
  | none => 0
set_option maxRecDepth 100000 in
theorem open_u16s {v : Value} {d : DataW H} {p : List MemPlace} {r : Reach} {b0 : Nat} (hv : Value.okWide Try.prog w r b0 36 v) (h : DataW.Trod enc Try.prog w base spare held 36 v d p) :
    ∃ oa n cap, v = .slice oa n cap ∧ U16sAt w oa n (u16Of w oa) ∧ n ≤ cap ∧ n ≤ 9223372036854775807 := by
  obtain ⟨a0, len, cap, rfl⟩ := okWide_slice Try.underlying36 hv
  obtain ⟨fuel, h⟩ := h
  rcases open_slice Try.underlying36 h with ⟨h0, _⟩ | ⟨a, len', cap', m, n, D, Pl, hcs, hb, hl, hm, hmm, hx, hi⟩
  · simp [Value.cells] at h0
    obtain ⟨rfl, rfl, rfl⟩ := h0
    exact ⟨none, 0, 0, rfl, fun i hi => by omega, by omega, by omega⟩
  · simp [Value.cells] at hcs
    obtain ⟨rfl, rfl, rfl⟩ := hcs
    refine ⟨some a, len, cap, rfl, fun i hlt => ?_, hl, by unfold maxLen at hm; omega⟩
    have hlm : len ≤ m := by rw [hmm]; split <;> omega
    have cell : ∀ i, i < len → (∃ v, w.cell? ((a.add (i * 1)).add 0) = some v) ∧ ∃ b : Nat, b < 65536 ∧ w.cell? ⟨a.block, a.off + (i * 1 + 0), none⟩ = some (.int .u16 (b : Nat)) := fun i hi9 => by
      obtain ⟨cs, hc, ht⟩ := hi i (by omega)
      rw [show Try.prog.cellsOf 51 = 1 by kernel_rfl] at hc
      obtain ⟨n', e, _, hw⟩ := DataW.trod_int Try.underlying51 ht
      obtain ⟨b, rfl, hb⟩ := wf_u16 hw
      obtain ⟨_, hcl, hat⟩ := World.cells?_some hc
      subst e
      exact ⟨⟨_, hat 0 (by omega)⟩, b, hb, at_cell hat (i := 0) (by omega) rfl⟩
    obtain ⟨⟨v, hv⟩, -⟩ := cell 0 (by omega)
    obtain ⟨-, b, hb9, h0⟩ := cell i hlt
    have h1 : w.cell? ⟨a.block, a.off + i, none⟩ = some (.int .u16 (b : Nat)) := by simpa using h0
    have e : u16Of w (some a) i = b := by
      show (cellInt w a i).toNat = b
      rw [cellInt_of h1]; simp
    rw [e]
    exact ⟨hb9, a.block, a.off, addr_eta (cell_zero hv), cell_lt h1, h1⟩
end
end Go.Proofs.Ytipnaeijbbbdoaa
