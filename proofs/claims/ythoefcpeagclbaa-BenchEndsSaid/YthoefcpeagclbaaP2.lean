/- The best of a list is the best of what is behind its first one; plain, no program in sight. -/
import Derived.Test.YthoefcpeagclbaaW12
namespace Go.Proofs.Ythoefcpeagclbaa
open Go.RowKit
def densL (n : Nat) (t : Nat → Mark) (s : Spn) : List Frac := tabAt n t s.hi :: insL t s n
def densF (n : Nat) (t : Nat → Mark) (s : Spn) (i : Nat) : Frac := (densL n t s).getD i ⟨1, 1⟩
theorem best_shift {better : Frac → Frac → Bool} (hirr : ∀ a, better a a = false) {t u : Nat → Frac} {f : Frac} (h0 : t 0 = f) (hs : ∀ i, t (i + 1) = u i) : ∀ k, bestN better t f (k + 1) = bestN better u f k
  | 0 => by
    show (if better (t 0) f then t 0 else f) = f
    rw [h0, hirr]; rfl
  | k + 1 => by
    show (if better (t (k + 1)) (bestN better t f (k + 1)) then t (k + 1) else bestN better t f (k + 1)) = if better (u k) (bestN better u f k) then u k else bestN better u f k
    rw [best_shift hirr h0 hs k, hs]
theorem lt_irr (a : Frac) : a.lt a = false := by simp [Frac.lt]
theorem thin_eq (b : Bnch) (x : Ctch) : b.thin x = bestN Frac.lt (densF b.n b.t x.warm) (tabAt b.n b.t x.warm.lo) (densL b.n b.t x.warm).length :=
  best_shift (t := extF b.n b.t x.warm) lt_irr rfl (fun _ => rfl) _
theorem thick_eq (b : Bnch) (x : Ctch) : b.thick x = bestN (fun a b => Frac.lt b a) (densF b.n b.t x.warm) (tabAt b.n b.t x.warm.lo) (densL b.n b.t x.warm).length :=
  best_shift (better := fun a b => Frac.lt b a) (t := extF b.n b.t x.warm) lt_irr rfl (fun _ => rfl) _
/-- a fraction lies in a box of the call's own -/
structure PC (g : Nat) (f : Frac) (w : World) : Prop where
  c0 : w.cell? ⟨g, 0, none⟩ = some (.int .i64 f.top)
  c1 : w.cell? ⟨g, 1, none⟩ = some (.int .i64 f.under)
  z0 : w.frozen? ⟨g, 0, none⟩ = false
  z1 : w.frozen? ⟨g, 1, none⟩ = false
theorem PC.lt {g : Nat} {f : Frac} {w : World} (h : PC g f w) : g < w.heap.size := World.block_lt_of_cell? w ⟨g, 0, none⟩ h.c0
theorem PC.below {g : Nat} {f : Frac} {w w' : World} (h : PC g f w) (hb : Below w.heap.size w w') : PC g f w' := ⟨(hb.cell (p := ⟨g, 0, none⟩) h.lt).trans h.c0, (hb.cell (p := ⟨g, 1, none⟩) h.lt).trans h.c1, (hb.frozen (p := ⟨g, 0, none⟩) h.lt).trans h.z0, (hb.frozen (p := ⟨g, 1, none⟩) h.lt).trans h.z1⟩
theorem PC.set {g : Nat} {f : Frac} {w : World} (h : PC g f w) (f' : Frac) : PC g f' ((w.setCell ⟨g, 0, none⟩ (.int .i64 f'.top)).setCell ⟨g, 1, none⟩ (.int .i64 f'.under)) := by
  have p := put2 h.c0 h.c1 (.int .i64 f'.top) (.int .i64 f'.under)
  have z0 := h.z0
  have z1 := h.z1
  exact ⟨(World.cell?_setCell_other _ _ _ _ (by simp)).trans p.1, p.2, by simpa [go_sem] using z0, by simpa [go_sem] using z1⟩
theorem PC.other {g k i : Nat} {v : Value} {f : Frac} {w : World} (h : PC g f w) (hne : g ≠ k) : PC g f (w.setCell ⟨k, i, none⟩ v) := by
  have e : (w.setCell ⟨k, i, none⟩ v).heap[g]? = w.heap[g]? := Below.heap_setCell w ⟨k, i, none⟩ v g hne
  exact ⟨(World.cell?_of_block (w := w) e).trans h.c0, (World.cell?_of_block (w := w) e).trans h.c1, (World.frozen?_of_block (w := w) (a := ⟨g, 0, none⟩) e).trans h.z0, (World.frozen?_of_block (w := w) (a := ⟨g, 1, none⟩) e).trans h.z1⟩
end Go.Proofs.Ythoefcpeagclbaa
