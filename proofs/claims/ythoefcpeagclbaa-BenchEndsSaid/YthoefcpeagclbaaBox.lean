/- A box that is made once and holds its cells. -/
import Derived.Test.YthoefcpeagclbaaData
import Derived.WalkLawsBesides
import Derived.Laws.AppendOwnNone
import Derived.RangeFuncRecord
namespace Go.Proofs.Ythoefcpeagclbaa
open Go.RowKit
structure Box (g : Nat) (cs : Array Value) (t : TypeId) (w : World) : Prop where
  row : w.heap[g]? = some (.cells cs t (0, 0))
theorem Box.lt {g : Nat} {cs : Array Value} {t : TypeId} {w : World} (h : Box g cs t w) : g < w.heap.size := by
  rcases Nat.lt_or_ge g w.heap.size with h1 | h1
  · exact h1
  · have := h.row
    rw [Array.getElem?_eq_none h1] at this; cases this
theorem Box.new {g : Nat} (cs : Array Value) (t : TypeId) (w : World) (h : g = w.heap.size) : Box g cs t (w.alloc (.cells cs t)) := ⟨by subst h; exact World.alloc_heap_new w _⟩
theorem Box.old {g : Nat} {cs : Array Value} {t : TypeId} {w : World} (h : Box g cs t w) (o : Obj) : Box g cs t (w.alloc o) := ⟨by rw [Below.heap_alloc _ _ _ h.lt]; exact h.row⟩
theorem Box.below {g : Nat} {cs : Array Value} {t : TypeId} {w w' : World} (h : Box g cs t w) (hb : Below w.heap.size w w') : Box g cs t w' := ⟨(hb.block g h.lt).trans h.row⟩
theorem Box.drew {g : Nat} {cs : Array Value} {t : TypeId} {w : World} (h : Box g cs t w) : Box g cs t w.drew := ⟨h.row⟩
theorem Box.drewN {g : Nat} {cs : Array Value} {t : TypeId} {w : World} (h : Box g cs t w) (n : Nat) : Box g cs t (w.drewN n) := h.below (below_drewN (Below.refl _ _) n)
theorem Box.cell {g : Nat} {cs : Array Value} {t : TypeId} {w : World} (h : Box g cs t w) (i : Nat) {v : Value} (hi : cs[i]? = some v) : w.cell? ⟨g, i, none⟩ = some v := (cell_of_row w g i _ t (0, 0) h.row).trans hi
theorem Box.frozen {g : Nat} {cs : Array Value} {t : TypeId} {w : World} (h : Box g cs t w) (i : Nat) : w.frozen? ⟨g, i, none⟩ = false := by
  have := h.row
  simp [World.frozen?, this]
theorem Box.other {g g' : Nat} {cs : Array Value} {t : TypeId} {w : World} (h : Box g cs t w) (hne : g ≠ g') (i : Nat) (v : Value) : Box g cs t (w.setCell ⟨g', i, none⟩ v) := ⟨(Below.heap_setCell w ⟨g', i, none⟩ v g hne).trans h.row⟩
theorem Box.set {g : Nat} {cs : Array Value} {t : TypeId} {w : World} (h : Box g cs t w) (i : Nat) (v : Value) : Box g (cs.setIfInBounds i v) t (w.setCell ⟨g, i, none⟩ v) := ⟨by
  have := h.row
  simp [World.setCell, Array.getElem?_modify, this]⟩
theorem Box.set2 {g : Nat} {x y : Value} {t : TypeId} {w : World} (h : Box g #[x, y] t w) (u v : Value) : Box g #[u, v] t ((w.setCell ⟨g, 0, none⟩ u).setCell ⟨g, 1, none⟩ v) := (h.set 0 u).set 1 v
/-- a box that holds a bench, a catch, a span, a fraction -/
abbrev BB (ty : TypeId) (b : Bnch) (oa : Option Addr) (cap g : Nat) (w : World) : Prop := Box g #[.bool b.weighs, .slice oa b.n cap, .int .i64 b.off, .int .i64 b.buoy.lo, .int .i64 b.buoy.hi, .int .i64 b.air.lo, .int .i64 b.air.hi] ty w
abbrev CB (x : Ctch) (g : Nat) (w : World) : Prop := Box g #[.int .i64 x.beg.lo, .int .i64 x.beg.hi, .int .i64 x.fin.lo, .int .i64 x.fin.hi, .int .i64 x.warm.lo, .int .i64 x.warm.hi] 28 w
theorem BB.cells {ty : TypeId} {b : Bnch} {oa : Option Addr} {cap g : Nat} {w : World} (h : BB ty b oa cap g w) :
    w.cell? ⟨g, 0, none⟩ = some (.bool b.weighs) ∧ w.cell? ⟨g, 1, none⟩ = some (.slice oa b.n cap) ∧ w.cell? ⟨g, 2, none⟩ = some (.int .i64 b.off) ∧ w.cell? ⟨g, 3, none⟩ = some (.int .i64 b.buoy.lo) ∧ w.cell? ⟨g, 4, none⟩ = some (.int .i64 b.buoy.hi) ∧ w.cell? ⟨g, 5, none⟩ = some (.int .i64 b.air.lo) ∧ w.cell? ⟨g, 6, none⟩ = some (.int .i64 b.air.hi) ∧ g < w.heap.size :=
  ⟨h.cell 0 rfl, h.cell 1 rfl, h.cell 2 rfl, h.cell 3 rfl, h.cell 4 rfl, h.cell 5 rfl, h.cell 6 rfl, h.lt⟩
theorem CB.cells {x : Ctch} {g : Nat} {w : World} (h : CB x g w) :
    w.cell? ⟨g, 0, none⟩ = some (.int .i64 x.beg.lo) ∧ w.cell? ⟨g, 1, none⟩ = some (.int .i64 x.beg.hi) ∧ w.cell? ⟨g, 2, none⟩ = some (.int .i64 x.fin.lo) ∧ w.cell? ⟨g, 3, none⟩ = some (.int .i64 x.fin.hi) ∧ w.cell? ⟨g, 4, none⟩ = some (.int .i64 x.warm.lo) ∧ w.cell? ⟨g, 5, none⟩ = some (.int .i64 x.warm.hi) ∧ g < w.heap.size :=
  ⟨h.cell 0 rfl, h.cell 1 rfl, h.cell 2 rfl, h.cell 3 rfl, h.cell 4 rfl, h.cell 5 rfl, h.lt⟩
/-- the two boxes of a function that takes a bench and a catch -/
abbrev two (ty : TypeId) (b : Bnch) (oa : Option Addr) (cap : Nat) (x : Ctch) (w : World) : World := (w.alloc (.cells #[.bool b.weighs, .slice oa b.n cap, .int .i64 b.off, .int .i64 b.buoy.lo, .int .i64 b.buoy.hi, .int .i64 b.air.lo, .int .i64 b.air.hi] ty)).alloc (.cells #[.int .i64 x.beg.lo, .int .i64 x.beg.hi, .int .i64 x.fin.lo, .int .i64 x.fin.hi, .int .i64 x.warm.lo, .int .i64 x.warm.hi] 28)
theorem two_bench (ty : TypeId) (b : Bnch) (oa : Option Addr) (cap : Nat) (x : Ctch) (w : World) : BB ty b oa cap w.heap.size (two ty b oa cap x w) := (Box.new _ ty w rfl).old _
theorem two_catch (ty : TypeId) (b : Bnch) (oa : Option Addr) (cap : Nat) (x : Ctch) (w : World) : CB x (w.heap.size + 1) (two ty b oa cap x w) := Box.new _ 28 _ (by simp)
theorem two_below (ty : TypeId) (b : Bnch) (oa : Option Addr) (cap : Nat) (x : Ctch) (w : World) : Below w.heap.size w (two ty b oa cap x w) := ((Below.refl _ _).alloc (Nat.le_refl _) _).alloc (by simp) _
/-- and its two results, fractions -/
abbrev four (ty ft : TypeId) (b : Bnch) (oa : Option Addr) (cap : Nat) (x : Ctch) (w : World) : World := ((two ty b oa cap x w).alloc (.cells #[.int .i64 0, .int .i64 0] ft)).alloc (.cells #[.int .i64 0, .int .i64 0] ft)
theorem four_bench (ty ft : TypeId) (b : Bnch) (oa : Option Addr) (cap : Nat) (x : Ctch) (w : World) : BB ty b oa cap w.heap.size (four ty ft b oa cap x w) := ((two_bench ty b oa cap x w).old _).old _
theorem four_catch (ty ft : TypeId) (b : Bnch) (oa : Option Addr) (cap : Nat) (x : Ctch) (w : World) : CB x (w.heap.size + 1) (four ty ft b oa cap x w) := ((two_catch ty b oa cap x w).old _).old _
theorem four_low (ty ft : TypeId) (b : Bnch) (oa : Option Addr) (cap : Nat) (x : Ctch) (w : World) : Box (w.heap.size + 1 + 1) #[.int .i64 0, .int .i64 0] ft (four ty ft b oa cap x w) := (Box.new _ _ _ (by simp)).old _
theorem four_high (ty ft : TypeId) (b : Bnch) (oa : Option Addr) (cap : Nat) (x : Ctch) (w : World) : Box (w.heap.size + 1 + 1 + 1) #[.int .i64 0, .int .i64 0] ft (four ty ft b oa cap x w) := Box.new _ _ _ (by simp)
theorem four_below (ty ft : TypeId) (b : Bnch) (oa : Option Addr) (cap : Nat) (x : Ctch) (w : World) : Below w.heap.size w (four ty ft b oa cap x w) := ((two_below ty b oa cap x w).alloc (by simp; omega) _).alloc (by simp; omega) _
/-- four cells of two boxes are written, the one box behind the other -/
theorem put4 {w : World} {p q : Nat} {ft : TypeId} {x0 x1 y0 y1 : Value} (hp : Box p #[x0, x1] ft w) (hq : Box q #[y0, y1] ft w) (hne : q ≠ p) (a b c d : Value) :
    (w.setCell ⟨p, 0, none⟩ a).cell? ⟨p, 0, none⟩ = some a ∧ ((w.setCell ⟨p, 0, none⟩ a).setCell ⟨p, 1, none⟩ b).cell? ⟨p, 1, none⟩ = some b ∧
      (((w.setCell ⟨p, 0, none⟩ a).setCell ⟨p, 1, none⟩ b).setCell ⟨q, 0, none⟩ c).cell? ⟨q, 0, none⟩ = some c ∧
      ((((w.setCell ⟨p, 0, none⟩ a).setCell ⟨p, 1, none⟩ b).setCell ⟨q, 0, none⟩ c).setCell ⟨q, 1, none⟩ d).cell? ⟨q, 1, none⟩ = some d := by
  have h1 := put2 (hp.cell 0 rfl) (hp.cell 1 rfl) a b
  have hq2 := (hq.other hne 0 a).other hne 1 b
  have h2 := put2 (hq2.cell 0 rfl) (hq2.cell 1 rfl) c d
  exact ⟨h1.1, h1.2, h2.1, h2.2⟩
theorem below_alloc1 (w : World) (o : Obj) : Below w.heap.size w (w.alloc o) := (Below.refl _ _).alloc (Nat.le_refl _) _
end Go.Proofs.Ythoefcpeagclbaa
