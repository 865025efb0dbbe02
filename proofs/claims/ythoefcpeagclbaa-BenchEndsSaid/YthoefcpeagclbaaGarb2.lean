/- What the last operations of a drawn region do: a box is made, a box is written. -/
import Derived.Test.YthoefcpeagclbaaGarb
import Derived.Test.YthoefcpeagclbaaW12
import Derived.Deep.MidRow
namespace Go.Proofs.Ythoefcpeagclbaa
open Go.RowKit
/-- block g alone may have changed -/
structure Only (g : Nat) (w w' : World) : Prop where
  os : w'.os = w.os
  tape : w'.tape = w.tape
  output : w'.output = w.output
  size : w'.heap.size = w.heap.size
  block : ∀ k, k ≠ g → w'.heap[k]? = w.heap[k]?
theorem Only.refl (g : Nat) (w : World) : Only g w w := ⟨rfl, rfl, rfl, rfl, fun _ _ => rfl⟩
theorem Only.setCell {g : Nat} {w w' : World} (h : Only g w w') (i : Nat) (v : Value) : Only g w (w'.setCell ⟨g, i, none⟩ v) :=
  ⟨h.os, h.tape, h.output, by simpa using h.size, fun k hk => (Below.heap_setCell w' ⟨g, i, none⟩ v k hk).trans (h.block k hk)⟩
theorem Only.setCells {g : Nat} {w : World} : ∀ {vs : List Value} {o : Nat} {w' : World}, Only g w w' → Only g w (w'.setCells g o vs)
  | [], _, _, h => h
  | v :: _, o, _, h => (h.setCell o v).setCells
theorem Only.below {g B : Nat} {w w' : World} (h : Only g w w') (hB : B ≤ g) : Below B w w' := ⟨h.os, h.tape, h.output, Nat.le_of_eq h.size.symm, fun k hk => h.block k (by omega)⟩
theorem Only.box {g k : Nat} {cs : Array Value} {t : TypeId} {w w' : World} (h : Only g w w') (hb : Box k cs t w) (hne : k ≠ g) : Box k cs t w' := ⟨(h.block k hne).trans hb.row⟩
theorem Two.onlyP {p q : Nat} {w A B : World} (h : Two p q w A) (ho : Only p A B) : Two p q w B := ⟨(by rw [ho.size]; exact h.size), fun k hk h1 h2 => (ho.block k h1).trans (h.block k hk h1 h2)⟩
theorem Two.onlyQ {p q : Nat} {w A B : World} (h : Two p q w A) (ho : Only q A B) : Two p q w B := ⟨(by rw [ho.size]; exact h.size), fun k hk h1 h2 => (ho.block k h2).trans (h.block k hk h1 h2)⟩
def setA (cs : Array Value) (o : Nat) : List Value → Array Value
  | [] => cs
  | v :: r => setA (cs.setIfInBounds o v) (o + 1) r
theorem setA_eq : ∀ (vs : List Value) (o : Nat) (cs : Array Value), o + vs.length = cs.size → setA cs o vs = (cs.toList.take o ++ vs).toArray
  | [], o, cs, h => by
    have : cs.toList.take o = cs.toList := List.take_of_length_le (by simp at h ⊢; omega)
    simp [setA, this]
  | v :: r, o, cs, h => by
    unfold setA
    rw [setA_eq r (o + 1) _ (by simp at h ⊢; omega)]
    simp only [List.length_cons] at h
    have e : (cs.setIfInBounds o v).toList.take (o + 1) = cs.toList.take o ++ [v] := by
      rw [Array.toList_setIfInBounds, List.take_succ_eq_append_getElem (by simp; omega), List.take_set_of_le (Nat.le_refl _)]
      simp
    rw [e]
    simp
theorem Box.setCells {g : Nat} {t : TypeId} : ∀ {vs : List Value} {o : Nat} {cs : Array Value} {w : World}, Box g cs t w → Box g (setA cs o vs) t (w.setCells g o vs)
  | [], _, _, _, h => h
  | v :: _, o, _, _, h => (h.set o v).setCells
theorem Box.there {g : Nat} {t : TypeId} {cs : Array Value} {w : World} (h : Box g cs t w) : w.there g 0 cs.size := fun j hj => by
  rw [Nat.zero_add]
  exact ⟨by rw [h.cell j (Array.getElem?_eq_getElem hj)]; rfl, h.frozen j⟩
section
variable {P : Program} {Q : Exit → Act → World → Prop}
/-- a struct is stored into a box of its own -/
theorem wp_store_box {op : Oper} {a : Act} {w : World} {K : Act → World → Prop} {ty : TypeId} {x y : Operand} {g : Nat} {cells cs : Array Value} {t : TypeId} (hB : Box g cs t w) (ho : op.op = .store ty x y) (hx : a.eval x = .pointer (some ⟨g, 0, none⟩)) (hy : a.eval y = .agg cells)
    (hs : cells.size = cs.size) (hi : (P.info? ty).map (·.size) = some cells.size) (h1 : cells.all (·.oneCell') = true)
    (h : ∀ w', Box g cells t w' → Only g w w' → K (a.put op.dst undef) w') : op.wp P a w K Q :=
  wp_store_mid ty x y ho g 0 cells hx hy (by rw [hs]; exact hB.there) hi h1 (h _ (by have e := setA_eq cells.toList 0 cs (by simp [hs]); simp only [List.take_zero, List.nil_append, Array.toArray_toList] at e; have := hB.setCells (vs := cells.toList) (o := 0); rwa [e] at this) (Only.refl _ _).setCells)
end
end Go.Proofs.Ythoefcpeagclbaa
