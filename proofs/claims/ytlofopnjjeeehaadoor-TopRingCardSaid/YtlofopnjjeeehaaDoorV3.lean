/- Travel: where boundsOf stands in its loops, and how it returns. -/
import Derived.Test.YtlofopnjjeeehaaDoorP1
import Derived.Laws.Bits64b
import Derived.Deep.DeepCutAuto
namespace Go.Proofs.YtlofopnjjeeehaaDoor
open Go.RowKit
theorem cells13_congr {D E : T13} (h : ∀ i k, i < 13 → k < 13 → D i k = E i k) : cells13 D = cells13 E := by
  unfold cells13
  apply Array.ext
  · simp
  · intro j h1 _
    simp only [Array.size_map, Array.size_range] at h1
    simp only [Array.getElem_map, Array.getElem_range]
    rw [h (j / 13) (j % 13) (by omega) (by omega)]
theorem initP_row (i : Nat) : cells13 (initP i 13) = cells13 (initP (i + 1) 0) := cells13_congr fun a b _ hb => by
  unfold initP
  by_cases h : (a < i ∨ a = i ∧ b < 13) ∧ a ≠ b
  · rw [if_pos h, if_pos (by omega)]
  · rw [if_neg h, if_neg (by omega)]
theorem initP_end : cells13 (initP 13 0) = cells13 initT := cells13_congr fun a b ha _ => by
  unfold initP initT
  by_cases h : a ≠ b
  · rw [if_pos (by omega), if_pos h]
  · rw [if_neg (by omega), if_neg h]
theorem initP_step {i k : Nat} (h : i ≠ k) : cells13 (setT (initP i k) i k 1099511627776) = cells13 (initP i (k + 1)) := cells13_congr fun a b _ _ => by
  unfold setT initP
  by_cases h9 : a = i ∧ b = k
  · rw [if_pos h9, if_pos (by omega)]
  · rw [if_neg h9]
    by_cases h8 : (a < i ∨ a = i ∧ b < k) ∧ a ≠ b
    · rw [if_pos h8, if_pos (by omega)]
    · rw [if_neg h8, if_neg (by omega)]
theorem initP_skip (i : Nat) : cells13 (initP i i) = cells13 (initP i (i + 1)) := cells13_congr fun a b _ _ => by
  unfold initP
  by_cases h8 : (a < i ∨ a = i ∧ b < i) ∧ a ≠ b
  · rw [if_pos h8, if_pos (by omega)]
  · rw [if_neg h8, if_neg (by omega)]
theorem z62 : Tryd.zeroCells63 = cells13 (initP 0 0) := by kernel_rfl
/-- where boundsOf stands: the round's box, and the table's -/
structure Fr (w : World) (gr g : Nat) (rc : Array Value) (D : T13) (W : World) : Prop where
  low : Below w.heap.size w W
  zr : Box gr rc 29 W
  zt : Box g (cells13 D) 63 W
section
variable {w W W' : World} {gr g : Nat} {rc : Array Value} {D D' : T13}
theorem Fr.below (h : Fr w gr g rc D W) (hb : Below W.heap.size W W') : Fr w gr g rc D W' := ⟨h.low.trans (hb.mono h.low.size), h.zr.below hb, h.zt.below hb⟩
theorem Fr.tab (h : Fr w gr g rc D W) (ht : Tab g D' W W') (hg : w.heap.size ≤ g) (hne : gr ≠ g) : Fr w gr g rc D' W' := ⟨ht.but.below hg h.low h.low.size, ht.but.box h.zr hne, ht.box⟩
theorem Fr.set (h : Fr w gr g rc D W) (hg : w.heap.size ≤ g) (hne : gr ≠ g) {j : Nat} {v : Value} (e : (cells13 D).setIfInBounds j v = cells13 D') : Fr w gr g rc D' (W.setCell ⟨g, j, none⟩ v) :=
  ⟨Below.setCell h.low hg _, h.zr.other hne j v, by rw [← e]; exact h.zt.set j v⟩
theorem Fr.congr (h : Fr w gr g rc D W) (e : cells13 D = cells13 D') : Fr w gr g rc D' W := ⟨h.low, h.zr, by rw [← e]; exact h.zt⟩
end
/-- the same contract with whole numbers as arguments -/
theorem atMost_at (x y : Int) (i k g : Nat) (n : Int) (D : Nat → Nat → Int) (w : World) (hx : x = i) (hy : y = k) (hi : i < 13) (hk : k < 13) (hB : Box g (cells13 D) 63 w) :
    Calls Tryd.prog 30 #[.int .i64 x, .int .i64 y, .int .i64 n, .pointer (some ⟨g, 0, none⟩)] w fun e w' => (∃ v, e = .returned v) ∧ Tab g (minT D i k n) w w' := by
  subst hx hy
  exact atMost_any i k g n D w hi hk hB
theorem tab_below {t : List Nat} {b : Nat} {w w' : World} (h : TabAt b t w) (h1 : b < w.heap.size) (hb : Below w.heap.size w w') : TabAt b t w' := fun j hj => (hb.cell (p := ⟨b, j, none⟩) h1).trans (h j hj)
theorem tzB_any (x : Nat) (hx0 : x ≠ 0) (hx : x < 18446744073709551616) (w : World) (hT : TabAt 1 Lib.deBruijn64tab w) :
    Calls Tryd.prog 32 #[.int .u64 x] w fun e w' => e = .returned (.int .i64 (Lib.ctz 64 x)) ∧ Below w.heap.size w w' := (tz_any x hx0 hx w hT).mono fun _ _ h => ⟨h.1, by rw [h.2]; exact Below.refl _ _⟩
set_option maxRecDepth 100000 in
theorem results33_run (tmps : Array Value) (w : World) (g : Nat) (cs : Array Value) (b : Bool) (h6 : tmps.getD 6 undef = .pointer (some ⟨g, 0, none⟩)) (h7 : tmps.getD 7 undef = .bool b) (hB : Box g cs 63 w) (hs : cs.size = 169) :
    (results Tryd.f15 tmps).run Tryd.prog w = .ok (.tuple #[.agg cs, .bool b]) w := by
  have h6' : tmps[6]?.getD undef = .pointer (some ⟨g, 0, none⟩) := by simpa using h6
  have h7' : tmps[7]?.getD undef = .bool b := by simpa using h7
  have hl : (loadVar 63 ⟨g, 0, none⟩).run Tryd.prog w = .ok (.agg cs) w := run_loadVar_row (P := Tryd.prog) w g 63 63 cs (0, 0) (.array 13 61) hB.row (by kernel_rfl) rfl (by rw [hs]; kernel_rfl)
  unfold results
  simp only [Tryd.results15]
  simp [h6', h7', asAddr, hl]
/-- a trip is in its bounds -/
def Trp.ok (t : Trp) : Prop := 0 ≤ t.b ∧ t.b < 6 ∧ 0 ≤ t.m ∧ t.m < 6 ∧ -100000 ≤ t.lo ∧ t.lo ≤ t.hi ∧ t.hi ≤ 100000
theorem cells13_one (D : T13) : (cells13 D).all (·.oneCell') = true := by
  rw [Array.all_eq_true]
  intro i h
  simp [cells13, Value.oneCell']
end Go.Proofs.YtlofopnjjeeehaaDoor
