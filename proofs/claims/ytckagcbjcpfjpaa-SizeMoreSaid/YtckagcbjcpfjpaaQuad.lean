/- Four boxes that hold the same house. -/
import Derived.Test.YtckagcbjcpfjpaaApp
import Derived.Test.YtckagcbjcpfjpaaCopies
namespace Go.Proofs.Ytckagcbjcpfjpaa
open Go.RowKit
def HBlk (h : House) (ta ra : Option Addr) (tc rc g : Nat) (W : World) : Prop := W.heap[g]? = some (.cells #[.int .i64 h.head, .int .i64 h.drip, .slice ta h.nt tc, .slice ra h.nr rc] 25 (0, 0))
def Quad (h : House) (ta ra : Option Addr) (tc rc B : Nat) (v0 v1 v2 v3 : Value) (W : World) : Prop :=
  ∃ g0 g1 g2 g3 : Nat, v0 = .pointer (some ⟨g0, 0, none⟩) ∧ v1 = .pointer (some ⟨g1, 0, none⟩) ∧ v2 = .pointer (some ⟨g2, 0, none⟩) ∧ v3 = .pointer (some ⟨g3, 0, none⟩) ∧
    g0 ≠ g1 ∧ g0 ≠ g2 ∧ g0 ≠ g3 ∧ g1 ≠ g2 ∧ g1 ≠ g3 ∧ g2 ≠ g3 ∧ (B ≤ g0 ∧ B ≤ g1 ∧ B ≤ g2 ∧ B ≤ g3) ∧
    HBlk h ta ra tc rc g0 W ∧ HBlk h ta ra tc rc g1 W ∧ HBlk h ta ra tc rc g2 W ∧ HBlk h ta ra tc rc g3 W
theorem blk_lt {W : World} {g : Nat} {o : Obj} (h : W.heap[g]? = some o) : g < W.heap.size := by
  rcases Nat.lt_or_ge g W.heap.size with h1 | h1
  · exact h1
  · rw [Array.getElem?_eq_none h1] at h; cases h
theorem HBlk.hb {h : House} {ta ra : Option Addr} {tc rc g : Nat} {W : World} (k : HBlk h ta ra tc rc g W) : HB h ta ra tc rc g W :=
  ⟨(cell_of_row W g 0 _ 25 (0, 0) k).trans rfl, (cell_of_row W g 1 _ 25 (0, 0) k).trans rfl, (cell_of_row W g 2 _ 25 (0, 0) k).trans rfl, (cell_of_row W g 3 _ 25 (0, 0) k).trans rfl, blk_lt k⟩
theorem HBlk.below {h : House} {ta ra : Option Addr} {tc rc g : Nat} {W W' : World} (k : HBlk h ta ra tc rc g W) (hb : Below W.heap.size W W') : HBlk h ta ra tc rc g W' := (hb.block g (blk_lt k)).trans k
theorem HBlk.new (h : House) (ta ra : Option Addr) (tc rc : Nat) (w : World) : HBlk h ta ra tc rc w.heap.size (w.alloc (.cells #[.int .i64 h.head, .int .i64 h.drip, .slice ta h.nt tc, .slice ra h.nr rc] 25)) := heap_new rfl
theorem quad_new {h : House} {ta ra : Option Addr} {tc rc : Nat} {w W : World} {o : Obj} (ho : o = .cells #[.int .i64 h.head, .int .i64 h.drip, .slice ta h.nt tc, .slice ra h.nr rc] 25 (0, 0)) (hW : W = (((w.alloc o).alloc o).alloc o).alloc o) (i0 i1 i2 i3 : Nat)
    (h0 : i0 < 4) (h1 : i1 < 4) (h2 : i2 < 4) (h3 : i3 < 4) (h01 : i0 ≠ i1) (h02 : i0 ≠ i2) (h03 : i0 ≠ i3) (h12 : i1 ≠ i2) (h13 : i1 ≠ i3) (h23 : i2 ≠ i3) :
    Quad h ta ra tc rc w.heap.size (.pointer (some ⟨w.heap.size + i0, 0, none⟩)) (.pointer (some ⟨w.heap.size + i1, 0, none⟩)) (.pointer (some ⟨w.heap.size + i2, 0, none⟩)) (.pointer (some ⟨w.heap.size + i3, 0, none⟩)) W := by
  have key : ∀ i, i < 4 → HBlk h ta ra tc rc (w.heap.size + i) W := fun i hi => by
    unfold HBlk
    rw [hW, ← ho]
    have hi4 : i = 0 ∨ i = 1 ∨ i = 2 ∨ i = 3 := by omega
    have s1 : (w.alloc o).heap.size = w.heap.size + 1 := by simp
    have s2 : ((w.alloc o).alloc o).heap.size = w.heap.size + 2 := by simp
    have s3 : (((w.alloc o).alloc o).alloc o).heap.size = w.heap.size + 3 := by simp
    rcases hi4 with rfl | rfl | rfl | rfl
    · exact heap_old (by omega) (heap_old (by omega) (heap_old (by omega) (heap_new (by omega))))
    · exact heap_old (by omega) (heap_old (by omega) (heap_new (by omega)))
    · exact heap_old (by omega) (heap_new (by omega))
    · exact heap_new (by omega)
  exact ⟨_, _, _, _, rfl, rfl, rfl, rfl, by omega, by omega, by omega, by omega, by omega, by omega, ⟨by omega, by omega, by omega, by omega⟩, key _ h0, key _ h1, key _ h2, key _ h3⟩
end Go.Proofs.Ytckagcbjcpfjpaa
