/- The row's last step of a law that returns true and changes nothing old. How the arguments of this seat's laws lie: a round, a trip, numbers and lists of them. -/
import Derived.Carry
import Derived.ChangeSame
import Derived.WalkKit
import Derived.OpenShut
import Derived.Test.YtldodmfmibeoiaaDoorL7
import Derived.Lib.LaidTab
import Derived.Deep.Slices
import Derived.Deep.Fields
import Derived.Lib.SmallJoins
namespace Go.Proofs.YtldodmfmibeoiaaDoor
open Go.RowKit Go.WideShapes Go.ChangeShapes
section
variable {H : Type} {enc : TypeId × Value → H} {P : Program}
/-- all arguments read as they did -/
theorem args_stay (hl : laidOutB P = true) {W W' : World} (hb : Below W.heap.size W W') (sp : Nat → Bool) :
    ∀ {ts : List TypeId} {vs : List Value} {ds : List (DataW H)} {ps : List MemPlace}, ts.all (fun t => P.readableRec t && decide (t < P.types.size)) = true → DataW.TrodAll enc P W 0 (fun _ => true) true ts vs ds ps →
      (∀ x ∈ ps, x.block < W.heap.size) → (∀ x ∈ ps, sp x.block = true) → DataW.TrodAll enc P W' 0 sp true ts vs ds ps
  | [], vs, ds, ps, _, h, _, _ => by cases vs <;> cases ds <;> exact h
  | t :: ts, vs, ds, ps, ht, h, hlt, hsp => by
    obtain ⟨v, vs', d, ds', p, q, rfl, rfl, rfl, h0, h1⟩ := trodAll_cons h
    simp only [List.all_cons, Bool.and_eq_true, decide_eq_true_eq] at ht
    exact ⟨p, q, WideElems.Trod_stays hl ht.1.1 ht.1.2 h0 (fun x hx => hb.same (hlt x (by simp [hx]))) (fun x hx => hsp x (by simp [hx])),
      args_stay hl hb sp (by simpa using ht.2) h1 (fun x hx => hlt x (by simp [hx])) (fun x hx => hsp x (by simp [hx])), rfl⟩
/-- one bool comes out, nothing old has changed: the post of a law without named variables -/
theorem true_row {f : Func} {s : ChangeSpec} {W W' : World} {args : Array Value} {ds gs : List (DataW H)} {before : List MemPlace} (hl : laidOutB P = true)
    (hv : s.vars = []) (hr : f.resultTypes = #[4]) (hu : P.underlying 4 = some .bool) (hp : f.params.toList.all (fun t => P.readableRec t && decide (t < P.types.size)) = true)
    (hs : s.fn H (ds ++ gs) = { results := [.lit (.bool true)], args := ds })
    (hW : DataW.Whole enc P f.params.toList s.vars false W args.toList ds gs before) (hb : Below W.heap.size W W') :
    s.post enc P f false true false false W args (.bool true) W' := by
  have hlt : ∀ x ∈ before, x.block < W.heap.size := fun x hx => hW.lt x hx
  have hW0 := hW
  obtain ⟨p, q, hA, hV, he, _, _⟩ := hW
  have hV' := hV
  rw [hv] at hV'
  obtain ⟨rfl, rfl⟩ := trodVars_none hV'
  obtain rfl : before = p := by simpa using he
  refine ⟨ds, [], before, [], before, [], hW0, ?_, ?_, ?_, World.keptBut_mono (fun x hx => ⟨hx, Or.inr (Or.inl hx)⟩) (hb.frame (· ∈ before)), fun h => by cases h⟩
  · rw [hs, hr]
    exact trodAll_cons_mk (shut_bool hu true) trodAll_mk0
  · rw [hs]
    exact args_stay hl hb _ hp hA hlt (fun x hx => by simpa using hlt x hx)
  · rw [hs, hv]
    rfl
end
end Go.Proofs.YtldodmfmibeoiaaDoor
namespace Go.Proofs.YtldodmfmibeoiaaDoor
open Go.RowKit Go.WideShapes Go.ChangeShapes Go.Joins Go.Deep
section
variable {H : Type} {enc : TypeId × Value → H} {w : World} {base : Nat} {spare : Nat → Bool} {held : Bool}
/-- the integer of a cell -/
def cellInt (w : World) (a : Addr) (i : Nat) : Int := match w.cell? ⟨a.block, a.off + i, none⟩ with
  | some (.int _ n) => n
  | _ => 0
theorem cellInt_of {w : World} {a : Addr} {i : Nat} {k : IntKind} {n : Int} (h : w.cell? ⟨a.block, a.off + i, none⟩ = some (.int k n)) : cellInt w a i = n := by
  unfold cellInt; rw [h]
theorem cell_self {w : World} {a : Addr} {i : Nat} {k : IntKind} {n : Int} (h : w.cell? ⟨a.block, a.off + i, none⟩ = some (.int k n)) : w.cell? ⟨a.block, a.off + i, none⟩ = some (.int k (cellInt w a i)) := by
  rw [cellInt_of h]; exact h
theorem cell_lt {w : World} {b off : Nat} {v : Value} (h : w.cell? ⟨b, off, none⟩ = some v) : b < w.heap.size := by
  unfold World.cell? at h
  rcases Nat.lt_or_ge b w.heap.size with hl | hl
  · exact hl
  · rw [Array.getElem?_eq_none hl] at h
    cases h
theorem spot_none {w : World} {a : Addr} {v : Value} (h : w.cell? a = some v) : a.spot = none := by
  cases hs : a.spot with
  | none => rfl
  | some s =>
    unfold World.cell? at h
    rw [hs] at h
    split at h <;> simp at h
theorem cell_add {w : World} {a : Addr} {i : Nat} {v : Value} (h : w.cell? (a.add i) = some v) : w.cell? ⟨a.block, a.off + i, none⟩ = some v := by
  unfold Addr.add at h
  split at h
  · rename_i h0
    have := spot_none h
    obtain ⟨b, o, s⟩ := a
    subst h0
    simp only at this
    subst this
    exact h
  · exact h
theorem open_i64 {fuel : Nat} {c : Value} {x : DataW H × List MemPlace} (h : DataW.trod enc Tryd.prog w base spare held fuel 3 [c] = some x) : ∃ n, c = .int .i64 n ∧ (Lit.int .i64 n).wf = true := by
  obtain ⟨n, hc, _, hw⟩ := DataW.trod_int Tryd.underlying3 h
  exact ⟨n, by simpa using hc, hw⟩
theorem take1 {cs : List Value} {n i : Nat} (hl : cs.length = n) (hi : i < n) : (cs.drop i).take 1 = [cs[i]'(by omega)] := by
  rw [List.drop_eq_getElem_cons (by omega)]; rfl
/-- the cells of a struct of integers -/
theorem cells_ints {a : Addr} {n : Nat} {cs : List Value} (hc : w.cells? base a n = some cs) {i : Nat} (hi : i < n) {v : Value} (hv : (cs.drop i).take 1 = [v]) : w.cell? (a.add i) = some v := by
  obtain ⟨_, hl, hat⟩ := World.cells?_some hc
  rw [hat i hi]
  rw [take1 hl hi] at hv
  rw [List.getElem?_eq_getElem (by omega)]
  simpa using hv
theorem add_add' (a : Addr) (i j : Nat) : (a.add i).add j = a.add (i + j) := Go.Deep.add_add a i j
theorem field_int {fuel i : Nat} {L : List Value} {xs : List (DataW H × List MemPlace)} (h : DataW.trod enc Tryd.prog w base spare held fuel 3 L = xs[i]?) (hi : i < xs.length) : ∃ n, L = [.int .i64 n] ∧ (Lit.int .i64 n).wf = true := by
  rw [List.getElem?_eq_getElem hi] at h
  obtain ⟨n, hc, _, hw⟩ := DataW.trod_int Tryd.underlying3 h
  exact ⟨n, hc, hw⟩
theorem cellsOf3 : Tryd.prog.cellsOf 3 = 1 := by kernel_rfl
theorem cellsOf22 : Tryd.prog.cellsOf 22 = 1 := by kernel_rfl
theorem cellsOf33 : Tryd.prog.cellsOf 33 = 2 := by kernel_rfl
theorem cellsOf48 : Tryd.prog.cellsOf 48 = 4 := by kernel_rfl
theorem at_cell {a : Addr} {n i j : Nat} {cs : List Value} {v : Value} (hat : ∀ i, i < n → w.cell? ((a.add j).add i) = cs[i]?) (hi : i < n) (hv : cs[i]? = some v) : w.cell? ⟨a.block, a.off + (j + i), none⟩ = some v :=
  cell_add (by rw [← add_add', hat i hi, hv])
theorem cell_zero {w : World} {a : Addr} {v : Value} {k : Nat} (h : w.cell? ((a.add (0 * k)).add 0) = some v) : a.spot = none := by
  rw [Nat.zero_mul, add_add'] at h
  exact spot_none h
theorem addr_eta {a : Addr} (h : a.spot = none) : some a = some ⟨a.block, a.off, none⟩ := by
  obtain ⟨b, o, s⟩ := a
  simp only at h
  subst h
  rfl
set_option maxRecDepth 100000 in
/-- two integers in a struct -/
theorem span_parts {fuel : Nat} {cs : List Value} {x : DataW H × List MemPlace} (ht : DataW.trod enc Tryd.prog w base spare held fuel 33 cs = some x) (c0 c1 : Value) (hcs : cs = [c0, c1]) : ∃ x y : Int, c0 = .int .i64 x ∧ c1 = .int .i64 y := by
  obtain ⟨xs, n1, _, _, _, hlen, hg⟩ := DataW.trod_struct Tryd.underlying33 ht
  have hlen2 : xs.length = 2 := hlen
  obtain ⟨v0, e0, _⟩ := field_int (hg 0 _ rfl) (by omega)
  obtain ⟨v1, e1, _⟩ := field_int (hg 1 _ rfl) (by omega)
  subst hcs
  simp [cellsOf3] at e0 e1
  exact ⟨v0, v1, e0, e1⟩
set_option maxRecDepth 100000 in
theorem trip_cells {fuel : Nat} {a : Addr} {i : Nat} {cs : List Value} {x : DataW H × List MemPlace} (hc : w.cells? base (a.add (i * 4)) 4 = some cs) (ht : DataW.trod enc Tryd.prog w base spare held fuel 48 cs = some x) :
    (∃ v, w.cell? ((a.add (i * 4)).add 0) = some v) ∧ ∃ x y z u : Int, w.cell? ⟨a.block, a.off + (i * 4 + 0), none⟩ = some (.int .i64 x) ∧ w.cell? ⟨a.block, a.off + (i * 4 + 1), none⟩ = some (.int .i64 y) ∧ w.cell? ⟨a.block, a.off + (i * 4 + 2), none⟩ = some (.int .i64 z) ∧ w.cell? ⟨a.block, a.off + (i * 4 + 3), none⟩ = some (.int .i64 u) := by
  obtain ⟨xs, n1, _, _, _, hlen, hg⟩ := DataW.trod_struct Tryd.underlying48 ht
  have hlen2 : xs.length = 3 := hlen
  obtain ⟨v0, e0, _⟩ := field_int (hg 0 _ rfl) (by omega)
  obtain ⟨v1, e1, _⟩ := field_int (hg 1 _ rfl) (by omega)
  have t2 := hg 2 _ rfl
  rw [List.getElem?_eq_getElem (by omega)] at t2
  obtain ⟨_, hcl, hat⟩ := World.cells?_some hc
  match cs, hcl with
  | [c0, c1, c2, c3], _ =>
    simp [cellsOf3, cellsOf33] at e0 e1 t2
    obtain ⟨x1, x2, rfl, rfl⟩ := span_parts t2 _ _ rfl
    subst e0 e1
    exact ⟨⟨_, hat 0 (by omega)⟩, v0, v1, x1, x2, at_cell hat (i := 0) (by omega) rfl, at_cell hat (i := 1) (by omega) rfl, at_cell hat (i := 2) (by omega) rfl, at_cell hat (i := 3) (by omega) rfl⟩
def tripOf (w : World) (oa : Option Addr) (i : Nat) : Trp := match oa with
  | some a => ⟨cellInt w a (i * 4), cellInt w a (i * 4 + 1), cellInt w a (i * 4 + 2), cellInt w a (i * 4 + 3)⟩
  | none => ⟨0, 0, 0, 0⟩
set_option maxRecDepth 100000 in
theorem open_trips {fuel : Nat} {c : Value} {x : DataW H × List MemPlace} (h : DataW.trod enc Tryd.prog w base spare held fuel 22 [c] = some x) :
    ∃ oa n cap, c = .slice oa n cap ∧ TrpsAt w oa n (tripOf w oa) ∧ n ≤ cap ∧ n ≤ 9223372036854775807 ∧ (oa = none → n = 0 ∧ cap = 0) := by
  rcases open_slice Tryd.underlying22 h with ⟨h0, _⟩ | ⟨a, len, cap, m, n, D, Pl, hcs, hb, hl, hm, hmm, hx, hi⟩
  · exact ⟨none, 0, 0, by simpa using h0, fun i hi => by omega, by omega, by omega, fun _ => ⟨rfl, rfl⟩⟩
  · refine ⟨some a, len, cap, by simpa using hcs, fun i hlt => ?_, hl, by unfold maxLen at hm; omega, fun e => by cases e⟩
    have hlm : len ≤ m := by rw [hmm]; split <;> omega
    obtain ⟨cs0, hc0, ht0⟩ := hi 0 (by omega)
    obtain ⟨cs, hc, ht⟩ := hi i (by omega)
    rw [cellsOf48] at hc hc0
    obtain ⟨⟨v, hv⟩, -⟩ := trip_cells hc0 ht0
    obtain ⟨-, x, y, z, u, h0, h1, h2, h3⟩ := trip_cells hc ht
    refine ⟨a.block, a.off, addr_eta (cell_zero hv), cell_lt h0, ?_, ?_, ?_, ?_⟩
    · exact cell_self h0
    · exact cell_self h1
    · exact cell_self h2
    · exact cell_self h3
set_option maxRecDepth 100000 in
/-- an argument that is a round -/
theorem open_round {r : Reach} {b0 : Nat} {v : Value} {d : DataW H} {p : List MemPlace} (hv : Value.okWide Tryd.prog w r b0 24 v) (h : DataW.Trod enc Tryd.prog w base spare held 24 v d p) :
    ∃ (t : Rnd) (oa : Option Addr) (ca : Nat), v = t.val oa ca ∧ TrpsAt w oa t.n t.t ∧ t.n ≤ ca ∧ t.n ≤ 9223372036854775807 ∧ (oa = none → t.n = 0 ∧ ca = 0) := by
  obtain ⟨⟨l⟩, rfl, hsz⟩ := okWide_struct Tryd.underlying24 hv
  match l, hsz.trans (show Tryd.prog.cellsOf 24 = 4 by kernel_rfl) with
  | [c0, c1, c2, c3], _ =>
    obtain ⟨fuel, hf⟩ := h
    obtain ⟨xs, n, _, hx, _, hlen, hg⟩ := DataW.trod_struct Tryd.underlying24 hf
    have hlen2 : xs.length = 4 := hlen
    have t3 := hg 3 _ rfl
    rw [List.getElem?_eq_getElem (by omega)] at t3
    obtain ⟨v0, e0, _⟩ := field_int (hg 0 _ rfl) (by omega)
    obtain ⟨v1, e1, _⟩ := field_int (hg 1 _ rfl) (by omega)
    obtain ⟨v2, e2, _⟩ := field_int (hg 2 _ rfl) (by omega)
    simp [cellsOf3, cellsOf22, Value.cells] at e0 e1 e2 t3
    obtain ⟨oa, k, ca, rfl, hT, hc, hm, hnl⟩ := open_trips t3
    subst e0 e1 e2
    exact ⟨⟨v0, v1, v2, k, tripOf w oa⟩, oa, ca, rfl, hT, hc, hm, hnl⟩
set_option maxRecDepth 100000 in
/-- an argument that is a trip -/
theorem open_trip {r : Reach} {b0 : Nat} {v : Value} {d : DataW H} {p : List MemPlace} (hv : Value.okWide Tryd.prog w r b0 48 v) (h : DataW.Trod enc Tryd.prog w base spare held 48 v d p) :
    ∃ s : Trp, v = s.val := by
  obtain ⟨⟨l⟩, rfl, hsz⟩ := okWide_struct Tryd.underlying48 hv
  match l, hsz.trans (show Tryd.prog.cellsOf 48 = 4 by kernel_rfl) with
  | [c0, c1, c2, c3], _ =>
    obtain ⟨fuel, hf⟩ := h
    obtain ⟨xs, n, _, hx, _, hlen, hg⟩ := DataW.trod_struct Tryd.underlying48 hf
    have hlen2 : xs.length = 3 := hlen
    have t2 := hg 2 _ rfl
    rw [List.getElem?_eq_getElem (by omega)] at t2
    obtain ⟨v0, e0, _⟩ := field_int (hg 0 _ rfl) (by omega)
    obtain ⟨v1, e1, _⟩ := field_int (hg 1 _ rfl) (by omega)
    simp [cellsOf3, cellsOf33, Value.cells] at e0 e1 t2
    obtain ⟨x1, x2, rfl, rfl⟩ := span_parts t2 _ _ rfl
    subst e0 e1
    exact ⟨⟨v0, v1, x1, x2⟩, rfl⟩
set_option maxRecDepth 100000 in
theorem open_int {v : Value} {r : Reach} {b0 : Nat} (hv : Value.okWide Tryd.prog w r b0 3 v) : ∃ n, v = .int .i64 n := okWide_int Tryd.underlying3 hv
theorem wf_i64 {n : Int} (h : (Lit.int .i64 n).wf = true) : -9223372036854775808 ≤ n ∧ n ≤ 9223372036854775807 := by
  simp [Lit.wf, IntKind.min, IntKind.max, IntKind.bits, IntKind.signed] at h
  omega
theorem wf_u8 {n : Int} (h : (Lit.int .u8 n).wf = true) : ∃ b : Nat, n = (b : Int) ∧ b < 256 := by
  simp [Lit.wf, IntKind.min, IntKind.max, IntKind.bits, IntKind.signed] at h
  exact ⟨n.toNat, by omega, by omega⟩
set_option maxRecDepth 100000 in
theorem open_u8 {v : Value} {d : DataW H} {p : List MemPlace} {r : Reach} {b0 : Nat} (hv : Value.okWide Tryd.prog w r b0 5 v) (h : DataW.Trod enc Tryd.prog w base spare held 5 v d p) : ∃ b : Nat, v = .int .u8 (b : Nat) ∧ b < 256 := by
  obtain ⟨n, rfl⟩ := okWide_int Tryd.underlying5 hv
  obtain ⟨fuel, h⟩ := h
  obtain ⟨n', e, _, hw⟩ := DataW.trod_int Tryd.underlying5 h
  simp [Value.cells] at e
  subst e
  obtain ⟨b, rfl, hb⟩ := wf_u8 hw
  exact ⟨b, rfl, hb⟩
theorem wf_u16 {n : Int} (h : (Lit.int .u16 n).wf = true) : ∃ b : Nat, n = (b : Int) ∧ b < 65536 := by
  simp [Lit.wf, IntKind.min, IntKind.max, IntKind.bits, IntKind.signed] at h
  exact ⟨n.toNat, by omega, by omega⟩
end
theorem g64 : Tryd.prog.globalNamed "math/bits.deBruijn64tab" = some 1 := by kernel_rfl
end Go.Proofs.YtldodmfmibeoiaaDoor
