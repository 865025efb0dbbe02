/- A struct, or one integer, is stored into the midst of a box; integers of a list lie in memory. -/
import Derived.Test.YthoefcpeagclbaaGarb2
import Derived.Test.YthoefcpeagclbaaApp
namespace Go.Proofs.Ythoefcpeagclbaa
open Go.RowKit
theorem Box.thereAt {g o n : Nat} {t : TypeId} {cs : Array Value} {w : World} (h : Box g cs t w) (hn : o + n ≤ cs.size) : w.there g o n := fun j hj => by
  exact ⟨by rw [h.cell (o + j) (Array.getElem?_eq_getElem (by omega))]; rfl, h.frozen _⟩
section
variable {P : Program} {Q : Exit → Act → World → Prop}
theorem wp_store_at {op : Oper} {a : Act} {w : World} {K : Act → World → Prop} {ty : TypeId} {x y : Operand} {g o : Nat} {cells cs : Array Value} {t : TypeId} (hB : Box g cs t w) (ho : op.op = .store ty x y) (hx : a.eval x = .pointer (some ⟨g, o, none⟩)) (hy : a.eval y = .agg cells)
    (hs : o + cells.size ≤ cs.size) (hi : (P.info? ty).map (·.size) = some cells.size) (h1 : cells.all (·.oneCell') = true)
    (h : ∀ w', Box g (setA cs o cells.toList) t w' → Only g w w' → K (a.put op.dst undef) w') : op.wp P a w K Q :=
  wp_store_mid ty x y ho g o cells hx hy (hB.thereAt hs) hi h1 (h _ hB.setCells (Only.refl _ _).setCells)
theorem run_storeAt_int (w : World) (b o : Nat) (ty : TypeId) (k : IntKind) (n : Int) (ht : w.there b o 1) (hi : (P.info? ty).map (·.size) = some 1) :
    (Instr.storeAt ty (.pointer (some ⟨b, o, none⟩)) (.int k n)).run P w = .ok () (w.setCell ⟨b, o, none⟩ (.int k n)) := by
  have := run_storeCells_cells (P := P) b o [.int k n] 0 w (fun j hj => by simpa using (ht j (by simpa using hj)).1) (fun j hj => by simpa using (ht j (by simpa using hj)).2) (fun v hv => by simp at hv; subst hv; rfl)
  cases hq : P.info? ty with
  | none => simp [hq] at hi
  | some i =>
    have hs : i.size = 1 := by simp [hq] at hi; omega
    simp only [Nat.add_zero, World.setCells] at this
    simp only [Instr.storeAt, Instr.sureAddr, Sem.run_bind, Sem.run_pure, Result.andThen_ok]
    simp [storeVar, sizeOf, typeInfo, hq, Value.cells, hs, this]
theorem wp_store_int {op : Oper} {a : Act} {w : World} {K : Act → World → Prop} {ty : TypeId} {x y : Operand} {g o : Nat} {k : IntKind} {n : Int} {cs : Array Value} {t : TypeId} (hB : Box g cs t w) (ho : op.op = .store ty x y) (hx : a.eval x = .pointer (some ⟨g, o, none⟩)) (hy : a.eval y = .int k n)
    (hs : o < cs.size) (hi : (P.info? ty).map (·.size) = some 1) (h : ∀ w', Box g (cs.setIfInBounds o (.int k n)) t w' → Only g w w' → K (a.put op.dst undef) w') : op.wp P a w K Q := by
  unfold Oper.wp execOp
  simp only [ho, hx, hy, run_storeAt_int w g o ty k n (hB.thereAt (by omega)) hi, Sem.run_bind, Sem.run_pure, Result.andThen_ok]
  exact h _ (hB.set _ _) ((Only.refl _ _).setCell _ _)
end
/-- the integers of a list, as cells -/
def listNews (l : List Int) : List Value := l.map fun z => .int .i64 z
theorem listNews_snoc (l : List Int) (z : Int) : listNews (l ++ [z]) = listNews l ++ [.int .i64 z] := by simp [listNews]
theorem listNews_int (l : List Int) : listNews l = intNews l.length (fun i => l.getD i 0) := by
  apply List.ext_getElem
  · simp [listNews, intNews]
  · intro i h1 h2
    simp [listNews] at h1
    simp [listNews, intNews, List.getD_eq_getElem?_getD, List.getElem?_eq_getElem h1]
theorem owns_list {w : World} {base e : Nat} {v : Value} {l : List Int} (h : w.ownsRow base e 1 v l.length (listNews l)) : ∃ oa cap, v = .slice oa l.length cap ∧ IntsAt w oa l.length (fun i => l.getD i 0) ∧ ∀ a, oa = some a → base ≤ a.block := by
  rw [listNews_int] at h
  exact owns_ints h
theorem owns_made2 {w : World} {e : TypeId} (a c : Int) : (w.alloc (.cells #[.int .i64 a, .int .i64 c] e)).ownsRow w.heap.size e 1 (.slice (some ⟨w.heap.size, 0, none⟩) 2 2) 2 (listNews [a, c]) :=
  ⟨rfl, .inr ⟨w.heap.size, 2, #[.int .i64 a, .int .i64 c], rfl, Nat.le_refl _, heap_new rfl, Nat.le_refl _, by simp only [maxLen]; omega, rfl, rfl⟩⟩
end Go.Proofs.Ythoefcpeagclbaa
