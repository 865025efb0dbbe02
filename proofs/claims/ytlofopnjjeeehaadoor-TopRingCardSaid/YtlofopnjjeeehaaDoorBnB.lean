/- The value of a valid table at a number within it. A box that is made once and holds its cells. A bench is valid as the program and the document say; no conditions but the length of its table. A bench is valid as the document says; no conditions but the length of its table. -/
import Derived.Test.YtlofopnjjeeehaaDoorBnA
import Derived.Deep.DeepCutAuto
import Derived.BigRegion
import Derived.WalkLawsBesides
import Derived.Laws.AppendOwnNone
import Derived.RangeFuncRecord
namespace Go.Proofs.YtlofopnjjeeehaaDoor.Bn
open Go.RowKit
theorem marks_tail {w : World} {b off n : Nat} {t : Nat → Mark} (h : MarksAt w (some ⟨b, off, none⟩) n t) (hn : 1 ≤ n) : MarksAt w (some ⟨b, off + 2, none⟩) (n - 1) (fun j => t (j + 1)) := fun i hi => by
  obtain ⟨b', off', e, hlt, h0, h1⟩ := h (i + 1) (by omega)
  cases e
  exact ⟨b, off + 2, rfl, hlt, by rw [show off + 2 + i * 2 = off + (i + 1) * 2 by omega]; exact h0, by rw [show off + 2 + i * 2 + 1 = off + (i + 1) * 2 + 1 by omega]; exact h1⟩
theorem Tab.mono {n : Nat} {t : Nat → Mark} (h : Tab n t) : ∀ {i j : Nat}, i ≤ j → j < n → (t i).at_ ≤ (t j).at_
  | i, 0, hi, _ => by obtain rfl : i = 0 := by omega
                      exact Int.le_refl _
  | i, j + 1, hi, hj => by
    by_cases e : i = j + 1
    · subst e; exact Int.le_refl _
    · have := h.mono (i := i) (j := j) (by omega) (by omega)
      have := h.inc j hj
      omega
theorem at_step {n i : Nat} {t : Nat → Mark} {x : Int} (h : Tab n t) (i1 : 1 ≤ i) (i2 : i < n) (i3 : ∀ j, 1 ≤ j → j < i → (t j).at_ < x) (h0 : (t 0).at_ ≤ x) : (t (i - 1)).at_ ≤ x ∧ (t (i - 1)).at_ < (t i).at_ := by
  have h1 := h.inc (i - 1) (by omega)
  rw [show i - 1 + 1 = i by omega] at h1
  refine ⟨?_, h1⟩
  by_cases e : i = 1
  · subst e; exact h0
  · have := i3 (i - 1) (by omega) (by omega); omega
set_option maxHeartbeats 1000000 in
theorem at_any (oa : Option Addr) (n cap : Nat) (t : Nat → Mark) (x : Int) (w : World) (hV : Tab n t) (hT : MarksAt w oa n t) (hcap : n ≤ cap) (h0 : (t 0).at_ ≤ x) (hx : x ≤ (t (n - 1)).at_) :
    Calls Tryd.prog 69 #[.slice oa n cap, .int .i64 x] w fun e w' => e = .returned (tabAt n t x).val ∧ Below w.heap.size w w' := by
  have hn := hV.two
  have hn2 := hV.few
  obtain ⟨i1, i2, i3, i4⟩ := tabI_spec hn hx
  unfold tabAt
  obtain ⟨i, hi⟩ : ∃ i, i = tabI n t x := ⟨_, rfl⟩
  rw [← hi] at i1 i2 i3 i4 ⊢
  have HT := Lib.hid hT
  have HV := Lib.hid hV
  have I3 := Lib.hid i3
  have hx1 := hV.at1 (n - 1) (by omega)
  clear hT hV i3 hi
  obtain ⟨b, off, rfl, hlt0, -, -⟩ := HT.out 0 (by omega)
  go_enter Tryd.func69, Tryd.ntmps69
  go_wp2_with fail
  refine (indexMarks_at _ (n - 1) _ (fun j => t (j + 1)) x _ (i - 1) _ (by omega) (marks_tail ((HT.out.mono (by repeat' (first | exact Below.refl _ _ | assumption | apply below_drewN | apply Below.drew | (refine Below.alloc ?_ ?_ _) | (refine Below.setCell ?_ ?_ _) | (simp; done) | (simp; omega) | omega)))) (by omega)) (by simp <;> omega) (by simp [go_sem]) (by omega) (fun j hj => by have := I3.out (j + 1) (by omega) (by omega); omega) (by rw [show i - 1 + 1 = i by omega]; exact i4)).mono ?_
  rintro e w1 ⟨rfl, hb⟩
  have hb1 : Below w.heap.size w w1 := (Below.trans ((by repeat' (first | exact Below.refl _ _ | assumption | apply below_drewN | apply Below.drew | (refine Below.alloc ?_ ?_ _) | (refine Below.setCell ?_ ?_ _) | (simp; done) | (simp; omega) | omega))) (Below.mono hb (by simp <;> omega)))
  have ei : ((i - 1 : Nat) : Int) + 1 = (i : Int) := by omega
  obtain ⟨b', off', e1, hl1, p0, p1⟩ := (HT.out.mono hb1) (i - 1) (by omega)
  obtain ⟨b'', off'', e2, hl2, q0, q1⟩ := (HT.out.mono hb1) i (by omega)
  cases e1
  cases e2
  have ei2 : ((i : Int) - 1).toNat = i - 1 := by omega
  go_wp2_with fail
  go_cut [6, 7] (fun s6 s7 wx => Below w1.heap.size w1 wx ∧ ∃ g0 g1, s6 = .pointer (some ⟨g0, 0, none⟩) ∧ s7 = .pointer (some ⟨g1, 0, none⟩) ∧ wx.cell? ⟨g0, 0, none⟩ = some (.int .i64 (t (i - 1)).at_) ∧ wx.cell? ⟨g0, 1, none⟩ = some (.int .i64 (t (i - 1)).value) ∧ wx.cell? ⟨g1, 0, none⟩ = some (.int .i64 (t i).at_) ∧ wx.cell? ⟨g1, 1, none⟩ = some (.int .i64 (t i).value))
  case first =>
    go_region
    all_goals
      go_wp2_with fail
      go_meet
      exact ⟨(by repeat' (first | exact Below.refl _ _ | assumption | apply below_drewN | apply Below.drew | (refine Below.alloc ?_ ?_ _) | (refine Below.setCell ?_ ?_ _) | (simp; done) | (simp; omega) | omega)), _, _, rfl, rfl, by simp [go_sem], by simp [go_sem], by simp [go_sem], by simp [go_sem]⟩
  case rest =>
    obtain ⟨hbx, g0, g1, rfl, rfl, a0, a1, z0, z1⟩ := hcut
    have hb2 : Below ((w.alloc (.cells #[.int .i64 x] 3)).alloc (.cells #[.int .i64 0, .int .i64 0] 83)).heap.size ((w.alloc (.cells #[.int .i64 x] 3)).alloc (.cells #[.int .i64 0, .int .i64 0] 83)) wc := hb.trans (hbx.mono hb.size)
    have c0 : wc.cell? ⟨w.heap.size, 0, none⟩ = some (.int .i64 x) := (hb2.cell (p := ⟨w.heap.size, 0, none⟩) (by simp <;> omega)).trans (by simp [go_sem])
    have c1 : wc.cell? ⟨w.heap.size + 1, 0, none⟩ = some (.int .i64 0) := (hb2.cell (p := ⟨w.heap.size + 1, 0, none⟩) (by simp)).trans (by simp [go_sem])
    have c2 : wc.cell? ⟨w.heap.size + 1, 1, none⟩ = some (.int .i64 0) := (hb2.cell (p := ⟨w.heap.size + 1, 1, none⟩) (by simp)).trans (by simp [go_sem])
    have f1 : wc.frozen? ⟨w.heap.size + 1, 0, none⟩ = false := (hb2.frozen (p := ⟨w.heap.size + 1, 0, none⟩) (by simp)).trans (by simp [go_sem])
    have f2 : wc.frozen? ⟨w.heap.size + 1, 1, none⟩ = false := (hb2.frozen (p := ⟨w.heap.size + 1, 1, none⟩) (by simp)).trans (by simp [go_sem])
    have hbw := hb1.trans (hbx.mono hb1.size)
    have hs := hb2.size
    simp at hs
    have d1 := at_step HV.out i1 i2 I3.out h0
    have v1 := HV.out.v0 (i - 1) (by omega)
    have v2 := HV.out.v1 (i - 1) (by omega)
    have v3 := HV.out.v0 i i2
    have v4 := HV.out.v1 i i2
    have d2 := HV.out.at1 i i2
    have d3 := HV.out.at0 (i - 1) (by omega)
    have m1 := mulb (a := (t (i - 1)).value) (b := (t i).at_ - (t (i - 1)).at_) (x := 10000000) (y := 10000) (by omega) (by omega) (by omega) (by omega)
    have m2 := mulsb (a := (t i).value - (t (i - 1)).value) (b := x - (t (i - 1)).at_) (x := 10000000) (y := 10000) (by omega) (by omega) (by omega) (by omega)
    clear hb2 hbx hb1 hb hl1 hl2 p0 p1 q0 q1 ei ei2
    go_wp2_with fail
    have pq := put2 c1 c2 (.int .i64 ((t (i - 1)).value * ((t i).at_ - (t (i - 1)).at_) + ((t i).value - (t (i - 1)).value) * (x - (t (i - 1)).at_))) (.int .i64 ((t i).at_ - (t (i - 1)).at_))
    refine bodyPost_ret (v := .agg #[.int .i64 ((t (i - 1)).value * ((t i).at_ - (t (i - 1)).at_) + ((t i).value - (t (i - 1)).value) * (x - (t (i - 1)).at_)), .int .i64 ((t i).at_ - (t (i - 1)).at_)]) (by simp [results, Tryd.results69, go_sem, pq.1, pq.2]) rfl ⟨rfl, ?_⟩
    exact (by repeat' (first | exact Below.refl _ _ | assumption | apply below_drewN | apply Below.drew | (refine Below.alloc ?_ ?_ _) | (refine Below.setCell ?_ ?_ _) | (simp; done) | (simp; omega) | omega))
end Go.Proofs.YtlofopnjjeeehaaDoor.Bn
namespace Go.Proofs.YtlofopnjjeeehaaDoor.Bn
open Go.RowKit
structure Box (g : Nat) (cs : Array Value) (t : TypeId) (w : World) : Prop where
  row : w.heap[g]? = some (.cells cs t (0, 0))
theorem Box.lt {g : Nat} {cs : Array Value} {t : TypeId} {w : World} (h : Box g cs t w) : g < w.heap.size := by
  rcases Nat.lt_or_ge g w.heap.size with h1 | h1
  · exact h1
  · have := h.row
    rw [Array.getElem?_eq_none h1] at this; cases this
theorem Box.new {g : Nat} (cs : Array Value) (t : TypeId) (w : World) (h : g = w.heap.size) : Box g cs t (w.alloc (.cells cs t)) := ⟨by subst h; exact World.alloc_heap_new w _⟩
theorem Box.old {g : Nat} {cs : Array Value} {t : TypeId} {w : World} (h : Box g cs t w) (o : Obj) : Box g cs t (w.alloc o) := ⟨by rw [Below.heap_alloc _ _ _ h.lt]; exact h.row⟩
theorem Box.below {g : Nat} {cs : Array Value} {t : TypeId} {w w' : World} (h : Box g cs t w) (hb : Below w.heap.size w w') : Box g cs t w' := ⟨(hb.block g h.lt).trans h.row⟩
theorem Box.drew {g : Nat} {cs : Array Value} {t : TypeId} {w : World} (h : Box g cs t w) : Box g cs t w.drew := ⟨h.row⟩
theorem Box.drewN {g : Nat} {cs : Array Value} {t : TypeId} {w : World} (h : Box g cs t w) (n : Nat) : Box g cs t (w.drewN n) := h.below (below_drewN (Below.refl _ _) n)
theorem Box.cell {g : Nat} {cs : Array Value} {t : TypeId} {w : World} (h : Box g cs t w) (i : Nat) {v : Value} (hi : cs[i]? = some v) : w.cell? ⟨g, i, none⟩ = some v := (cell_of_row w g i _ t (0, 0) h.row).trans hi
theorem Box.frozen {g : Nat} {cs : Array Value} {t : TypeId} {w : World} (h : Box g cs t w) (i : Nat) : w.frozen? ⟨g, i, none⟩ = false := by
  have := h.row
  simp [World.frozen?, this]
theorem Box.other {g g' : Nat} {cs : Array Value} {t : TypeId} {w : World} (h : Box g cs t w) (hne : g ≠ g') (i : Nat) (v : Value) : Box g cs t (w.setCell ⟨g', i, none⟩ v) := ⟨(Below.heap_setCell w ⟨g', i, none⟩ v g hne).trans h.row⟩
theorem Box.set {g : Nat} {cs : Array Value} {t : TypeId} {w : World} (h : Box g cs t w) (i : Nat) (v : Value) : Box g (cs.setIfInBounds i v) t (w.setCell ⟨g, i, none⟩ v) := ⟨by
  have := h.row
  simp [World.setCell, Array.getElem?_modify, this]⟩
theorem Box.set2 {g : Nat} {x y : Value} {t : TypeId} {w : World} (h : Box g #[x, y] t w) (u v : Value) : Box g #[u, v] t ((w.setCell ⟨g, 0, none⟩ u).setCell ⟨g, 1, none⟩ v) := (h.set 0 u).set 1 v
/-- a box that holds a bench, a catch, a span, a fraction -/
abbrev BB (ty : TypeId) (b : Bnch) (oa : Option Addr) (cap g : Nat) (w : World) : Prop := Box g #[.bool b.weighs, .slice oa b.n cap, .int .i64 b.off, .int .i64 b.buoy.lo, .int .i64 b.buoy.hi, .int .i64 b.air.lo, .int .i64 b.air.hi] ty w
abbrev CB (x : Ctch) (g : Nat) (w : World) : Prop := Box g #[.int .i64 x.beg.lo, .int .i64 x.beg.hi, .int .i64 x.fin.lo, .int .i64 x.fin.hi, .int .i64 x.warm.lo, .int .i64 x.warm.hi] 43 w
theorem BB.cells {ty : TypeId} {b : Bnch} {oa : Option Addr} {cap g : Nat} {w : World} (h : BB ty b oa cap g w) :
    w.cell? ⟨g, 0, none⟩ = some (.bool b.weighs) ∧ w.cell? ⟨g, 1, none⟩ = some (.slice oa b.n cap) ∧ w.cell? ⟨g, 2, none⟩ = some (.int .i64 b.off) ∧ w.cell? ⟨g, 3, none⟩ = some (.int .i64 b.buoy.lo) ∧ w.cell? ⟨g, 4, none⟩ = some (.int .i64 b.buoy.hi) ∧ w.cell? ⟨g, 5, none⟩ = some (.int .i64 b.air.lo) ∧ w.cell? ⟨g, 6, none⟩ = some (.int .i64 b.air.hi) ∧ g < w.heap.size :=
  ⟨h.cell 0 rfl, h.cell 1 rfl, h.cell 2 rfl, h.cell 3 rfl, h.cell 4 rfl, h.cell 5 rfl, h.cell 6 rfl, h.lt⟩
theorem CB.cells {x : Ctch} {g : Nat} {w : World} (h : CB x g w) :
    w.cell? ⟨g, 0, none⟩ = some (.int .i64 x.beg.lo) ∧ w.cell? ⟨g, 1, none⟩ = some (.int .i64 x.beg.hi) ∧ w.cell? ⟨g, 2, none⟩ = some (.int .i64 x.fin.lo) ∧ w.cell? ⟨g, 3, none⟩ = some (.int .i64 x.fin.hi) ∧ w.cell? ⟨g, 4, none⟩ = some (.int .i64 x.warm.lo) ∧ w.cell? ⟨g, 5, none⟩ = some (.int .i64 x.warm.hi) ∧ g < w.heap.size :=
  ⟨h.cell 0 rfl, h.cell 1 rfl, h.cell 2 rfl, h.cell 3 rfl, h.cell 4 rfl, h.cell 5 rfl, h.lt⟩
/-- the two boxes of a function that takes a bench and a catch -/
abbrev two (ty : TypeId) (b : Bnch) (oa : Option Addr) (cap : Nat) (x : Ctch) (w : World) : World := (w.alloc (.cells #[.bool b.weighs, .slice oa b.n cap, .int .i64 b.off, .int .i64 b.buoy.lo, .int .i64 b.buoy.hi, .int .i64 b.air.lo, .int .i64 b.air.hi] ty)).alloc (.cells #[.int .i64 x.beg.lo, .int .i64 x.beg.hi, .int .i64 x.fin.lo, .int .i64 x.fin.hi, .int .i64 x.warm.lo, .int .i64 x.warm.hi] 43)
theorem two_bench (ty : TypeId) (b : Bnch) (oa : Option Addr) (cap : Nat) (x : Ctch) (w : World) : BB ty b oa cap w.heap.size (two ty b oa cap x w) := (Box.new _ ty w rfl).old _
theorem two_catch (ty : TypeId) (b : Bnch) (oa : Option Addr) (cap : Nat) (x : Ctch) (w : World) : CB x (w.heap.size + 1) (two ty b oa cap x w) := Box.new _ 43 _ (by simp)
theorem two_below (ty : TypeId) (b : Bnch) (oa : Option Addr) (cap : Nat) (x : Ctch) (w : World) : Below w.heap.size w (two ty b oa cap x w) := ((Below.refl _ _).alloc (Nat.le_refl _) _).alloc (by simp) _
/-- and its two results, fractions -/
abbrev four (ty ft : TypeId) (b : Bnch) (oa : Option Addr) (cap : Nat) (x : Ctch) (w : World) : World := ((two ty b oa cap x w).alloc (.cells #[.int .i64 0, .int .i64 0] ft)).alloc (.cells #[.int .i64 0, .int .i64 0] ft)
theorem four_bench (ty ft : TypeId) (b : Bnch) (oa : Option Addr) (cap : Nat) (x : Ctch) (w : World) : BB ty b oa cap w.heap.size (four ty ft b oa cap x w) := ((two_bench ty b oa cap x w).old _).old _
theorem four_catch (ty ft : TypeId) (b : Bnch) (oa : Option Addr) (cap : Nat) (x : Ctch) (w : World) : CB x (w.heap.size + 1) (four ty ft b oa cap x w) := ((two_catch ty b oa cap x w).old _).old _
theorem four_low (ty ft : TypeId) (b : Bnch) (oa : Option Addr) (cap : Nat) (x : Ctch) (w : World) : Box (w.heap.size + 1 + 1) #[.int .i64 0, .int .i64 0] ft (four ty ft b oa cap x w) := (Box.new _ _ _ (by simp)).old _
theorem four_high (ty ft : TypeId) (b : Bnch) (oa : Option Addr) (cap : Nat) (x : Ctch) (w : World) : Box (w.heap.size + 1 + 1 + 1) #[.int .i64 0, .int .i64 0] ft (four ty ft b oa cap x w) := Box.new _ _ _ (by simp)
theorem four_below (ty ft : TypeId) (b : Bnch) (oa : Option Addr) (cap : Nat) (x : Ctch) (w : World) : Below w.heap.size w (four ty ft b oa cap x w) := ((two_below ty b oa cap x w).alloc (by simp; omega) _).alloc (by simp; omega) _
/-- four cells of two boxes are written, the one box behind the other -/
theorem put4 {w : World} {p q : Nat} {ft : TypeId} {x0 x1 y0 y1 : Value} (hp : Box p #[x0, x1] ft w) (hq : Box q #[y0, y1] ft w) (hne : q ≠ p) (a b c d : Value) :
    (w.setCell ⟨p, 0, none⟩ a).cell? ⟨p, 0, none⟩ = some a ∧ ((w.setCell ⟨p, 0, none⟩ a).setCell ⟨p, 1, none⟩ b).cell? ⟨p, 1, none⟩ = some b ∧
      (((w.setCell ⟨p, 0, none⟩ a).setCell ⟨p, 1, none⟩ b).setCell ⟨q, 0, none⟩ c).cell? ⟨q, 0, none⟩ = some c ∧
      ((((w.setCell ⟨p, 0, none⟩ a).setCell ⟨p, 1, none⟩ b).setCell ⟨q, 0, none⟩ c).setCell ⟨q, 1, none⟩ d).cell? ⟨q, 1, none⟩ = some d := by
  have h1 := put2 (hp.cell 0 rfl) (hp.cell 1 rfl) a b
  have hq2 := (hq.other hne 0 a).other hne 1 b
  have h2 := put2 (hq2.cell 0 rfl) (hq2.cell 1 rfl) c d
  exact ⟨h1.1, h1.2, h2.1, h2.2⟩
theorem below_alloc1 (w : World) (o : Obj) : Below w.heap.size w (w.alloc o) := (Below.refl _ _).alloc (Nat.le_refl _) _
end Go.Proofs.YtlofopnjjeeehaaDoor.Bn
namespace Go.Proofs.YtlofopnjjeeehaaDoor.Bn
open Go.RowKit
/-- a mark of a table is right, beside the one before it -/
def markOk (weighs : Bool) (t : Nat → Mark) (i : Nat) : Bool :=
  withinB (t i).at_ 0 10000 && withinB (t i).value 1 10000000 && (decide (i = 0) || (decide ((t (i - 1)).at_ < (t i).at_) && (weighs || decide ((t (i - 1)).value ≤ (t i).value))))
def allB (n : Nat) (p : Nat → Bool) : Bool := (List.range n).all p
theorem allB_iff {n : Nat} {p : Nat → Bool} : allB n p = true ↔ ∀ i, i < n → p i = true := by simp [allB, List.all_eq_true]
theorem allB_false {n k : Nat} {p : Nat → Bool} (h : k < n) (hp : p k = false) : allB n p = false := by
  rw [Bool.eq_false_iff]
  intro ha
  rw [allB_iff.1 ha k h] at hp
  cases hp
def Bnch.valid (b : Bnch) : Bool := allB b.n (markOk b.weighs b.t) && (withinB b.n 2 12 && withinB b.off 0 10000000 && spanB b.buoy 0 10000 && spanB b.air 0 10000000)
theorem mark_bad1 {g : Bool} {t : Nat → Mark} {k : Nat} (h : withinB (t k).at_ 0 10000 = false) : markOk g t k = false := by simp [markOk, h]
theorem mark_bad2 {g : Bool} {t : Nat → Mark} {k : Nat} (h : withinB (t k).value 1 10000000 = false) : markOk g t k = false := by simp [markOk, h]
theorem mark_bad3 {g : Bool} {t : Nat → Mark} {k : Nat} (h0 : 0 < k) (h : decide ((t k).at_ ≤ (t (k - 1)).at_) = true) : markOk g t k = false := by simp [markOk] at *; omega
theorem mark_bad4 {t : Nat → Mark} {k : Nat} (h0 : 0 < k) (h : decide ((t k).value < (t (k - 1)).value) = true) : markOk false t k = false := by simp [markOk] at *; omega
theorem mark_ok0 {g : Bool} {t : Nat → Mark} {k : Nat} (h0 : k = 0) (h1 : withinB (t k).at_ 0 10000 = true) (h2 : withinB (t k).value 1 10000000 = true) : markOk g t k = true := by subst h0; simp [markOk, h1, h2]
theorem mark_ok1 {t : Nat → Mark} {k : Nat} (h1 : withinB (t k).at_ 0 10000 = true) (h2 : withinB (t k).value 1 10000000 = true) (h3 : decide ((t k).at_ ≤ (t (k - 1)).at_) = false) : markOk true t k = true := by
  simp [markOk, h1, h2] at *; omega
theorem mark_ok2 {t : Nat → Mark} {k : Nat} (h1 : withinB (t k).at_ 0 10000 = true) (h2 : withinB (t k).value 1 10000000 = true) (h3 : decide ((t k).at_ ≤ (t (k - 1)).at_) = false) (h4 : decide ((t k).value < (t (k - 1)).value) = false) : markOk false t k = true := by
  simp [markOk, h1, h2] at *; omega
theorem all_succ {p : Nat → Bool} {k : Nat} (h : ∀ i, i < k → p i = true) (hk : p k = true) : ∀ i, i < k + 1 → p i = true := fun i hi => by
  by_cases e : i = k
  · subst e; exact hk
  · exact h i (by omega)
set_option maxRecDepth 100000 in
set_option maxHeartbeats 4000000 in
theorem isBench_any (b : Bnch) (oa : Option Addr) (cap : Nat) (w : World) (hn : b.n ≤ 1000000) (hT : MarksAt w oa b.n b.t) :
    Calls Tryd.prog 21 #[b.val oa cap] w fun e w' => e = .returned (.bool b.valid) ∧ Below w.heap.size w w' := by
  have HT := Lib.hid hT
  clear hT
  go_enter Tryd.func21, Tryd.ntmps21
  go_wp2_with fail
  have HB := Lib.hid (Box.new #[.bool b.weighs, .slice oa b.n cap, .int .i64 b.off, .int .i64 b.buoy.lo, .int .i64 b.buoy.hi, .int .i64 b.air.lo, .int .i64 b.air.hi] 37 w rfl)
  have hbw := below_alloc1 w (.cells #[.bool b.weighs, .slice oa b.n cap, .int .i64 b.off, .int .i64 b.buoy.lo, .int .i64 b.buoy.hi, .int .i64 b.air.lo, .int .i64 b.air.hi] 37)
  obtain ⟨w0, hw0⟩ : ∃ X, X = w.alloc (.cells #[.bool b.weighs, .slice oa b.n cap, .int .i64 b.off, .int .i64 b.buoy.lo, .int .i64 b.buoy.hi, .int .i64 b.air.lo, .int .i64 b.air.hi] 37) := ⟨_, rfl⟩
  rw [← hw0] at HB hbw ⊢
  clear hw0
  go_loopw [8] (fun v8 wr => ∃ k : Nat, k ≤ b.n ∧ v8 = .int .i64 k ∧ Below w0.heap.size w0 wr ∧ ∀ i, i < k → markOk b.weighs b.t i = true) (fun i _ => b.n - (intOf i).toNat)
  case atStart => exact ⟨0, Nat.zero_le _, rfl, Below.refl _ _, fun i hi => by omega⟩
  case round =>
    obtain ⟨k, hk, rfl, hb, hall⟩ := hrel
    have HA := Lib.hid hall
    have HB2 := Lib.hid (HB.out.below hb)
    have hbr := hbw.trans (hb.mono hbw.size)
    have hsr := hbr.size
    have hs0 := HB.out.lt
    have hs1 := HB2.out.lt
    have hs2 : ¬ w.heap.size = wr.heap.size := by omega
    have hs3 := hb.size
    obtain ⟨g0, g1, g2, g3, g4, g5, g6, -⟩ := BB.cells (b := b) HB2.out
    clear hs0
    clear hall
    by_cases hlt : k < b.n
    · obtain ⟨bb, off, rfl, hlt0, h0, h1⟩ := (HT.out.mono hbr) k hlt
      by_cases c1 : withinB (b.t k).at_ 0 10000 = true
      · by_cases c2 : withinB (b.t k).value 1 10000000 = true
        · by_cases c0 : k = 0
          · have d0 : decide ((0 : Int) < (k : Int)) = false := by simp [c0]
            have d0' : decide (0 < k) = false := by simp [c0]
            have HM := Lib.hid (mark_ok0 (g := b.weighs) c0 c1 c2)
            clear c0
            go_wp2_with (go_at_call 35; refine (within_any _ _ _ _).mono ?_; rintro e w1 ⟨rfl, rfl⟩)
            go_big_quiet (fail)
            go_wp2_with (go_at_call 35; refine (within_any _ _ _ _).mono ?_; rintro e w1 ⟨rfl, rfl⟩)
            go_roundw
            case rel => exact ⟨k + 1, by omega, by go_num, (by repeat' (first | exact Below.refl _ _ | assumption | apply below_drewN | apply Below.drew | (refine Below.alloc ?_ ?_ _) | (refine Below.setCell ?_ ?_ _) | (simp; done) | (simp; omega) | omega)), all_succ HA.out HM.out⟩
            case measure => simp [intOf]; omega
          · have c00 : 0 < k := by omega
            clear c0
            have d0 : decide ((0 : Int) < (k : Int)) = true := by simpa using c00
            obtain ⟨bb', off', e1, hlt1, q0, q1⟩ := (HT.out.mono hbr) (k - 1) (by omega)
            cases e1
            have ek : ((k : Int) - 1) = ((k - 1 : Nat) : Int) := by omega
            have ek1 : ((k : Int) - 1).toNat = k - 1 := by omega
            have ek2 : (0 : Int) ≤ (k : Int) - 1 := by omega
            have ek3 : (k : Int) - 1 < (b.n : Int) := by omega
            by_cases c3 : decide ((b.t k).at_ ≤ (b.t (k - 1)).at_) = true
            · have HM := Lib.hid (mark_bad3 (g := b.weighs) c00 c3)
              go_wp2_with (go_at_call 35; refine (within_any _ _ _ _).mono ?_; rintro e w1 ⟨rfl, rfl⟩)
              go_big_quiet (fail)
              go_wp2_with (go_at_call 35; refine (within_any _ _ _ _).mono ?_; rintro e w1 ⟨rfl, rfl⟩)
              go_ret
              exact ⟨ret_bool (by rw [Bnch.valid, allB_false hlt HM.out]; rfl), (by repeat' (first | exact Below.refl _ _ | assumption | apply below_drewN | apply Below.drew | (refine Below.alloc ?_ ?_ _) | (refine Below.setCell ?_ ?_ _) | (simp; done) | (simp; omega) | omega))⟩
            · replace c3 : decide ((b.t k).at_ ≤ (b.t (k - 1)).at_) = false := by simpa using c3
              by_cases c4 : b.weighs = true
              · have HM := Lib.hid (show markOk b.weighs b.t k = true by rw [c4]; exact mark_ok1 c1 c2 c3)
                rw [c4] at g0
                go_wp2_with (go_at_call 35; refine (within_any _ _ _ _).mono ?_; rintro e w1 ⟨rfl, rfl⟩)
                go_big_quiet (fail)
                go_wp2_with (go_at_call 35; refine (within_any _ _ _ _).mono ?_; rintro e w1 ⟨rfl, rfl⟩)
                go_roundw
                case rel => exact ⟨k + 1, by omega, by go_num, (by repeat' (first | exact Below.refl _ _ | assumption | apply below_drewN | apply Below.drew | (refine Below.alloc ?_ ?_ _) | (refine Below.setCell ?_ ?_ _) | (simp; done) | (simp; omega) | omega)), all_succ HA.out HM.out⟩
                case measure => simp [intOf]; omega
              · replace c4 : b.weighs = false := by simpa using c4
                rw [c4] at g0
                by_cases c5 : decide ((b.t k).value < (b.t (k - 1)).value) = true
                · have HM := Lib.hid (show markOk b.weighs b.t k = false by rw [c4]; exact mark_bad4 c00 c5)
                  go_wp2_with (go_at_call 35; refine (within_any _ _ _ _).mono ?_; rintro e w1 ⟨rfl, rfl⟩)
                  go_big_quiet (fail)
                  go_wp2_with (go_at_call 35; refine (within_any _ _ _ _).mono ?_; rintro e w1 ⟨rfl, rfl⟩)
                  go_ret
                  exact ⟨ret_bool (by rw [Bnch.valid, allB_false hlt HM.out]; rfl), (by repeat' (first | exact Below.refl _ _ | assumption | apply below_drewN | apply Below.drew | (refine Below.alloc ?_ ?_ _) | (refine Below.setCell ?_ ?_ _) | (simp; done) | (simp; omega) | omega))⟩
                · replace c5 : decide ((b.t k).value < (b.t (k - 1)).value) = false := by simpa using c5
                  have HM := Lib.hid (show markOk b.weighs b.t k = true by rw [c4]; exact mark_ok2 c1 c2 c3 c5)
                  go_wp2_with (go_at_call 35; refine (within_any _ _ _ _).mono ?_; rintro e w1 ⟨rfl, rfl⟩)
                  go_big_quiet (fail)
                  go_wp2_with (go_at_call 35; refine (within_any _ _ _ _).mono ?_; rintro e w1 ⟨rfl, rfl⟩)
                  go_roundw
                  case rel => exact ⟨k + 1, by omega, by go_num, (by repeat' (first | exact Below.refl _ _ | assumption | apply below_drewN | apply Below.drew | (refine Below.alloc ?_ ?_ _) | (refine Below.setCell ?_ ?_ _) | (simp; done) | (simp; omega) | omega)), all_succ HA.out HM.out⟩
                  case measure => simp [intOf]; omega
        · replace c2 : withinB (b.t k).value 1 10000000 = false := by simpa using c2
          have HM := Lib.hid (mark_bad2 (g := b.weighs) c2)
          go_wp2_with (go_at_call 35; refine (within_any _ _ _ _).mono ?_; rintro e w1 ⟨rfl, rfl⟩)
          go_ret
          exact ⟨ret_bool (by rw [Bnch.valid, allB_false hlt HM.out]; rfl), (by repeat' (first | exact Below.refl _ _ | assumption | apply below_drewN | apply Below.drew | (refine Below.alloc ?_ ?_ _) | (refine Below.setCell ?_ ?_ _) | (simp; done) | (simp; omega) | omega))⟩
      · replace c1 : withinB (b.t k).at_ 0 10000 = false := by simpa using c1
        have HM := Lib.hid (mark_bad1 (g := b.weighs) c1)
        go_wp2_with (go_at_call 35; refine (within_any _ _ _ _).mono ?_; rintro e w1 ⟨rfl, rfl⟩)
        go_ret
        exact ⟨ret_bool (by rw [Bnch.valid, allB_false hlt HM.out]; rfl), (by repeat' (first | exact Below.refl _ _ | assumption | apply below_drewN | apply Below.drew | (refine Below.alloc ?_ ?_ _) | (refine Below.setCell ?_ ?_ _) | (simp; done) | (simp; omega) | omega))⟩
    · have HT2 := Lib.hid (show allB b.n (markOk b.weighs b.t) = true from allB_iff.2 (fun i hi => HA.out i (by omega)))
      clear HB HB2 HT
      by_cases c1 : withinB (b.n : Int) 2 12 = true
      · by_cases c2 : withinB b.off 0 10000000 = true
        · skip
          go_wp2_with (go_at_call 35; refine (within_any _ _ _ _).mono ?_; rintro e w1 ⟨rfl, rfl⟩)
          refine (isSpan_any b.buoy _ _ _).mono ?_
          rintro e w2 ⟨rfl, hb2⟩
          have hbr2 := hbr.trans (hb2.mono hbr.size)
          have y5 := (hb2.cell (p := ⟨w.heap.size, 5, none⟩) hs1).trans g5
          have y6 := (hb2.cell (p := ⟨w.heap.size, 6, none⟩) hs1).trans g6
          by_cases c3 : spanB b.buoy 0 10000 = true
          · skip
            go_wp2_with (go_at_call 35; refine (within_any _ _ _ _).mono ?_; rintro e w1 ⟨rfl, rfl⟩)
            refine (isSpan_any b.air _ _ _).mono ?_
            rintro e w3 ⟨rfl, hb3⟩
            have hbr3 := hbr2.trans (hb3.mono hbr2.size)
            go_wp2_with (go_at_call 35; refine (within_any _ _ _ _).mono ?_; rintro e w1 ⟨rfl, rfl⟩)
            go_ret
            exact ⟨ret_bool (by simp [Bnch.valid, HT2.out, c1, c2, c3]), (by repeat' (first | exact Below.refl _ _ | assumption | apply below_drewN | apply Below.drew | (refine Below.alloc ?_ ?_ _) | (refine Below.setCell ?_ ?_ _) | (simp; done) | (simp; omega) | omega))⟩
          · replace c3 : spanB b.buoy 0 10000 = false := by simpa using c3
            go_wp2_with (go_at_call 35; refine (within_any _ _ _ _).mono ?_; rintro e w1 ⟨rfl, rfl⟩)
            go_ret
            exact ⟨ret_bool (by simp [Bnch.valid, HT2.out, c1, c2, c3]), (by repeat' (first | exact Below.refl _ _ | assumption | apply below_drewN | apply Below.drew | (refine Below.alloc ?_ ?_ _) | (refine Below.setCell ?_ ?_ _) | (simp; done) | (simp; omega) | omega))⟩
        · replace c2 : withinB b.off 0 10000000 = false := by simpa using c2
          go_wp2_with (go_at_call 35; refine (within_any _ _ _ _).mono ?_; rintro e w1 ⟨rfl, rfl⟩)
          go_ret
          exact ⟨ret_bool (by simp [Bnch.valid, HT2.out, c1, c2]), (by repeat' (first | exact Below.refl _ _ | assumption | apply below_drewN | apply Below.drew | (refine Below.alloc ?_ ?_ _) | (refine Below.setCell ?_ ?_ _) | (simp; done) | (simp; omega) | omega))⟩
      · replace c1 : withinB (b.n : Int) 2 12 = false := by simpa using c1
        go_wp2_with (go_at_call 35; refine (within_any _ _ _ _).mono ?_; rintro e w1 ⟨rfl, rfl⟩)
        go_ret
        exact ⟨ret_bool (by simp [Bnch.valid, HT2.out, c1]), (by repeat' (first | exact Below.refl _ _ | assumption | apply below_drewN | apply Below.drew | (refine Below.alloc ?_ ?_ _) | (refine Below.setCell ?_ ?_ _) | (simp; done) | (simp; omega) | omega))⟩
end Go.Proofs.YtlofopnjjeeehaaDoor.Bn
namespace Go.Proofs.YtlofopnjjeeehaaDoor.Bn
open Go.RowKit
end Go.Proofs.YtlofopnjjeeehaaDoor.Bn
