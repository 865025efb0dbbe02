/- What a law knows of its bench and catch; how great the errors of a meter can be. -/
import Derived.Test.YthoefcpeagclbaaL3
import Derived.Test.YthoefcpeagclbaaP11
namespace Go.Proofs.Ythoefcpeagclbaa
open Go.RowKit
structure Lv (w : World) (b : Bnch) (oa : Option Addr) (cap : Nat) (x : Ctch) (w' : World) : Prop where
  low : Below w.heap.size w w'
  B : BB 26 b oa cap w.heap.size w'
  X : CB x (w.heap.size + 1) w'
theorem Lv.below {w : World} {b : Bnch} {oa : Option Addr} {cap : Nat} {x : Ctch} {w1 w2 : World} (h : Lv w b oa cap x w1) (hb : Below w1.heap.size w1 w2) : Lv w b oa cap x w2 := ⟨h.low.trans (hb.mono h.low.size), h.B.below hb, h.X.below hb⟩
theorem err_bd {v s : Spn} (h0 : 1 ≤ v.lo) (h1 : v.lo ≤ v.hi) (h2 : v.hi ≤ 50000010000000) (hs : 0 ≤ s.lo ∧ s.lo ≤ 1073741824) (ht : 0 ≤ s.hi ∧ s.hi ≤ 1073741824) :
    (-1000000000000000000 ≤ (errR v s).lo ∧ (errR v s).lo ≤ 1000000000000000000) ∧ (-1000000000000000000 ≤ (errR v s).hi ∧ (errR v s).hi ≤ 1000000000000000000) := by
  have key : ∀ t u : Int, 0 < u → -600000000000000000 ≤ t → t ≤ 600000000000000000 → -600000000000000000 ≤ t / u ∧ t / u ≤ 600000000000000000 := fun t u hu a c => by
    rcases Int.le_total 0 t with p | p
    · have := Int.ediv_nonneg p (Int.le_of_lt hu)
      have := Int.ediv_le_self u p
      omega
    · have m := Int.mul_le_mul_of_nonpos_left (a := -600000000000000000) (show -600000000000000000 ≤ (0 : Int) by decide) (show (1 : Int) ≤ u by omega)
      have l : -600000000000000000 ≤ t / u := (Int.le_ediv_iff_mul_le hu).2 (by omega)
      have g : t / u < 1 := (Int.ediv_lt_iff_lt_mul hu).2 (by omega)
      omega
  have a := key (10000 * (s.lo - v.hi)) v.hi (by omega) (by omega) (by omega)
  have c := key (-(10000 * (s.hi - v.lo))) v.lo (by omega) (by omega) (by omega)
  unfold errR rnd
  dsimp only
  rw [if_pos rfl, if_neg (by decide)]
  omega
theorem gap_high {v s t : Spn} (h0 : 1 ≤ v.lo) (h1 : v.lo ≤ v.hi) (hs : 0 ≤ s.hi) (ht : 0 ≤ t.lo) : rnd 1 (10000 * (s.hi - t.lo)) (underV v (-(s.hi - t.lo))) ≤ (errR v s).hi - (errR v t).lo := by
  have h := gap_low (v := v) (s := t) (t := s) h0 h1 ht hs
  have e : t.lo - s.hi = -(s.hi - t.lo) := by omega
  rw [e] at h
  have e2 : rnd 1 (10000 * (s.hi - t.lo)) (underV v (-(s.hi - t.lo))) = -rnd 0 (10000 * -(s.hi - t.lo)) (underV v (-(s.hi - t.lo))) := by
    unfold rnd
    rw [if_neg (by decide), if_pos rfl, Int.mul_neg]
  rw [e2]
  omega
end Go.Proofs.Ythoefcpeagclbaa
