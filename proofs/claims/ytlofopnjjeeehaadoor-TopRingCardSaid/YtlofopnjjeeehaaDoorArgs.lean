/- The row's last step of a law that returns true and changes nothing old. How the arguments of TopRing lie: small numbers and a list of 16-bit numbers. -/
import Derived.Carry
import Derived.ChangeSame
import Derived.WalkKit
import Derived.OpenShut
import Derived.Test.YtlofopnjjeeehaaDoorT1
import Derived.Lib.LaidTab
import Derived.Deep.Slices
import Derived.Deep.Fields
import Derived.Lib.SmallJoins
namespace Go.Proofs.YtlofopnjjeeehaaDoor
open Go.RowKit Go.WideShapes Go.ChangeShapes
section
variable {H : Type} {enc : TypeId × Value → H} {P : Program}
/-- all arguments read as they did -/
theorem args_stay (hl : laidOutB P = true) {W W' : World} (hb : Below W.heap.size W W') (sp : Nat → Bool) :
    ∀ {ts : List TypeId} {vs : List Value} {ds : List (DataW H)} {ps : List MemPlace}, ts.all (fun t => P.readableRec t && decide (t < P.types.size)) = true → DataW.TrodAll enc P W 0 (fun _ => true) true ts vs ds ps →
      (∀ x ∈ ps, x.block < W.heap.size) → (∀ x ∈ ps, sp x.block = true) → DataW.TrodAll enc P W' 0 sp true ts vs ds ps
  | [], vs, ds, ps, _, h, _, _ => by cases vs <;> cases ds <;> exact h
  | t :: ts, vs, ds, ps, ht, h, hlt, hsp => by
    obtain ⟨v, vs', d, ds', p, q, rfl, rfl, rfl, h0, h1⟩ := trodAll_cons h
    simp only [List.all_cons, Bool.and_eq_true, decide_eq_true_eq] at ht
    exact ⟨p, q, WideElems.Trod_stays hl ht.1.1 ht.1.2 h0 (fun x hx => hb.same (hlt x (by simp [hx]))) (fun x hx => hsp x (by simp [hx])),
      args_stay hl hb sp (by simpa using ht.2) h1 (fun x hx => hlt x (by simp [hx])) (fun x hx => hsp x (by simp [hx])), rfl⟩
/-- one bool comes out, nothing old has changed: the post of a law without named variables -/
theorem true_row {f : Func} {s : ChangeSpec} {W W' : World} {args : Array Value} {ds gs : List (DataW H)} {before : List MemPlace} (hl : laidOutB P = true)
    (hv : s.vars = []) (hr : f.resultTypes = #[4]) (hu : P.underlying 4 = some .bool) (hp : f.params.toList.all (fun t => P.readableRec t && decide (t < P.types.size)) = true)
    (hs : s.fn H (ds ++ gs) = { results := [.lit (.bool true)], args := ds })
    (hW : DataW.Whole enc P f.params.toList s.vars false W args.toList ds gs before) (hb : Below W.heap.size W W') :
    s.post enc P f false true false false W args (.bool true) W' := by
  have hlt : ∀ x ∈ before, x.block < W.heap.size := fun x hx => hW.lt x hx
  have hW0 := hW
  obtain ⟨p, q, hA, hV, he, _, _⟩ := hW
  have hV' := hV
  rw [hv] at hV'
  obtain ⟨rfl, rfl⟩ := trodVars_none hV'
  obtain rfl : before = p := by simpa using he
  refine ⟨ds, [], before, [], before, [], hW0, ?_, ?_, ?_, World.keptBut_mono (fun x hx => ⟨hx, Or.inr (Or.inl hx)⟩) (hb.frame (· ∈ before)), fun h => by cases h⟩
  · rw [hs, hr]
    exact trodAll_cons_mk (shut_bool hu true) trodAll_mk0
  · rw [hs]
    exact args_stay hl hb _ hp hA hlt (fun x hx => by simpa using hlt x hx)
  · rw [hs, hv]
    rfl
end
end Go.Proofs.YtlofopnjjeeehaaDoor
namespace Go.Proofs.YtlofopnjjeeehaaDoor
open Go.RowKit Go.WideShapes Go.ChangeShapes Go.Joins Go.Deep
section
variable {H : Type} {enc : TypeId × Value → H} {w : World} {base : Nat} {spare : Nat → Bool} {held : Bool}
/-- the integer of a cell -/
def cellInt (w : World) (a : Addr) (i : Nat) : Int := match w.cell? ⟨a.block, a.off + i, none⟩ with
  | some (.int _ n) => n
  | _ => 0
theorem cellInt_of {w : World} {a : Addr} {i : Nat} {k : IntKind} {n : Int} (h : w.cell? ⟨a.block, a.off + i, none⟩ = some (.int k n)) : cellInt w a i = n := by
  unfold cellInt; rw [h]
theorem cell_lt {w : World} {b off : Nat} {v : Value} (h : w.cell? ⟨b, off, none⟩ = some v) : b < w.heap.size := by
  unfold World.cell? at h
  rcases Nat.lt_or_ge b w.heap.size with hl | hl
  · exact hl
  · rw [Array.getElem?_eq_none hl] at h
    cases h
theorem spot_none {w : World} {a : Addr} {v : Value} (h : w.cell? a = some v) : a.spot = none := by
  cases hs : a.spot with
  | none => rfl
  | some s =>
    unfold World.cell? at h
    rw [hs] at h
    split at h <;> simp at h
theorem cell_add {w : World} {a : Addr} {i : Nat} {v : Value} (h : w.cell? (a.add i) = some v) : w.cell? ⟨a.block, a.off + i, none⟩ = some v := by
  unfold Addr.add at h
  split at h
  · rename_i h0
    have := spot_none h
    obtain ⟨b, o, s⟩ := a
    subst h0
    simp only at this
    subst this
    exact h
  · exact h
theorem add_add' (a : Addr) (i j : Nat) : (a.add i).add j = a.add (i + j) := Go.Deep.add_add a i j
theorem at_cell {a : Addr} {n i j : Nat} {cs : List Value} {v : Value} (hat : ∀ i, i < n → w.cell? ((a.add j).add i) = cs[i]?) (hi : i < n) (hv : cs[i]? = some v) : w.cell? ⟨a.block, a.off + (j + i), none⟩ = some v :=
  cell_add (by rw [← add_add', hat i hi, hv])
theorem cell_zero {w : World} {a : Addr} {v : Value} {k : Nat} (h : w.cell? ((a.add (0 * k)).add 0) = some v) : a.spot = none := by
  rw [Nat.zero_mul, add_add'] at h
  exact spot_none h
theorem addr_eta {a : Addr} (h : a.spot = none) : some a = some ⟨a.block, a.off, none⟩ := by
  obtain ⟨b, o, s⟩ := a
  simp only at h
  subst h
  rfl
theorem wf_u8 {n : Int} (h : (Lit.int .u8 n).wf = true) : ∃ b : Nat, n = (b : Int) ∧ b < 256 := by
  simp [Lit.wf, IntKind.min, IntKind.max, IntKind.bits, IntKind.signed] at h
  exact ⟨n.toNat, by omega, by omega⟩
set_option maxRecDepth 100000 in
theorem open_u8 {v : Value} {d : DataW H} {p : List MemPlace} {r : Reach} {b0 : Nat} (hv : Value.okWide Tryd.prog w r b0 5 v) (h : DataW.Trod enc Tryd.prog w base spare held 5 v d p) : ∃ b : Nat, v = .int .u8 (b : Nat) ∧ b < 256 := by
  obtain ⟨n, rfl⟩ := okWide_int Tryd.underlying5 hv
  obtain ⟨fuel, h⟩ := h
  obtain ⟨n', e, _, hw⟩ := DataW.trod_int Tryd.underlying5 h
  simp [Value.cells] at e
  subst e
  obtain ⟨b, rfl, hb⟩ := wf_u8 hw
  exact ⟨b, rfl, hb⟩
theorem wf_u16 {n : Int} (h : (Lit.int .u16 n).wf = true) : ∃ b : Nat, n = (b : Int) ∧ b < 65536 := by
  simp [Lit.wf, IntKind.min, IntKind.max, IntKind.bits, IntKind.signed] at h
  exact ⟨n.toNat, by omega, by omega⟩
theorem wf_i8 {n : Int} (h : (Lit.int .i8 n).wf = true) : -128 ≤ n ∧ n ≤ 127 := by
  simp [Lit.wf, IntKind.min, IntKind.max, IntKind.bits, IntKind.signed] at h
  omega
set_option maxRecDepth 100000 in
theorem open_i8 {v : Value} {d : DataW H} {p : List MemPlace} {r : Reach} {b0 : Nat} (hv : Value.okWide Tryd.prog w r b0 22 v) (h : DataW.Trod enc Tryd.prog w base spare held 22 v d p) : ∃ b : Int, v = .int .i8 b ∧ -128 ≤ b ∧ b ≤ 127 := by
  obtain ⟨n, rfl⟩ := okWide_int Tryd.underlying22 hv
  obtain ⟨fuel, h⟩ := h
  obtain ⟨n', e, _, hw⟩ := DataW.trod_int Tryd.underlying22 h
  simp [Value.cells] at e
  subst e
  exact ⟨_, rfl, wf_i8 hw⟩
def u16Of (w : World) (oa : Option Addr) (i : Nat) : Nat := match oa with
  | some a => (cellInt w a i).toNat
  | none => 0
set_option maxRecDepth 100000 in
theorem open_u16s {v : Value} {d : DataW H} {p : List MemPlace} {r : Reach} {b0 : Nat} (hv : Value.okWide Tryd.prog w r b0 23 v) (h : DataW.Trod enc Tryd.prog w base spare held 23 v d p) :
    ∃ oa n cap, v = .slice oa n cap ∧ U16sAt w oa n (u16Of w oa) ∧ n ≤ cap ∧ n ≤ 9223372036854775807 := by
  obtain ⟨a0, len, cap, rfl⟩ := okWide_slice Tryd.underlying23 hv
  obtain ⟨fuel, h⟩ := h
  rcases open_slice Tryd.underlying23 h with ⟨h0, _⟩ | ⟨a, len', cap', m, n, D, Pl, hcs, hb, hl, hm, hmm, hx, hi⟩
  · simp [Value.cells] at h0
    obtain ⟨rfl, rfl, rfl⟩ := h0
    exact ⟨none, 0, 0, rfl, fun i hi => by omega, by omega, by omega⟩
  · simp [Value.cells] at hcs
    obtain ⟨rfl, rfl, rfl⟩ := hcs
    refine ⟨some a, len, cap, rfl, fun i hlt => ?_, hl, by unfold maxLen at hm; omega⟩
    have hlm : len ≤ m := by rw [hmm]; split <;> omega
    have cell : ∀ i, i < len → (∃ v, w.cell? ((a.add (i * 1)).add 0) = some v) ∧ ∃ b : Nat, b < 65536 ∧ w.cell? ⟨a.block, a.off + (i * 1 + 0), none⟩ = some (.int .u16 (b : Nat)) := fun i hi9 => by
      obtain ⟨cs, hc, ht⟩ := hi i (by omega)
      rw [show Tryd.prog.cellsOf 25 = 1 by kernel_rfl] at hc
      obtain ⟨n', e, _, hw⟩ := DataW.trod_int Tryd.underlying25 ht
      obtain ⟨b, rfl, hb⟩ := wf_u16 hw
      obtain ⟨_, hcl, hat⟩ := World.cells?_some hc
      subst e
      exact ⟨⟨_, hat 0 (by omega)⟩, b, hb, at_cell hat (i := 0) (by omega) rfl⟩
    obtain ⟨⟨v, hv⟩, -⟩ := cell 0 (by omega)
    obtain ⟨-, b, hb9, h0⟩ := cell i hlt
    have h1 : w.cell? ⟨a.block, a.off + i, none⟩ = some (.int .u16 (b : Nat)) := by simpa using h0
    have e : u16Of w (some a) i = b := by
      show (cellInt w a i).toNat = b
      rw [cellInt_of h1]; simp
    rw [e]
    exact ⟨hb9, a.block, a.off, addr_eta (cell_zero hv), cell_lt h1, h1⟩
end
theorem g64 : Tryd.prog.globalNamed "math/bits.deBruijn64tab" = some 1 := by kernel_rfl
end Go.Proofs.YtlofopnjjeeehaaDoor
