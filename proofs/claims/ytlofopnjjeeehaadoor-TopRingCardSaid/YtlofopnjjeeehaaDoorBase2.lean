/- A slice of the call's own beside boxes of other types; one slice is stored into a box; laws that name no program. -/
import Derived.Test.YtlofopnjjeeehaaDoorBase
namespace Go.Proofs.YtlofopnjjeeehaaDoor
open Go.RowKit
theorem own_ne {w : World} {base e size n g : Nat} {v : Value} {xs : List Value} {cs : Array Value} {t : TypeId} (h : w.ownsRow base e size v n xs) (hB : Box g cs t w) (hne : t ≠ e) : ∀ b, v.ownBlock = some b → b ≠ g := fun b hb e9 => by
  subst e9
  rcases h.2 with ⟨rfl, _⟩ | ⟨g', c, cur, rfl, _, hg, _⟩
  · cases hb
  · simp only [Value.ownBlock, Option.some.injEq] at hb
    subst hb
    have := hB.row
    rw [hg] at this
    simp at this
    exact hne this.2.symm
theorem owns_but {w w' : World} {base e size n g : Nat} {v : Value} {xs : List Value} (h : w.ownsRow base e size v n xs) (k : But g w w') (hne : ∀ b, v.ownBlock = some b → b ≠ g) : w'.ownsRow base e size v n xs := by
  refine h.kept (row := some g) ⟨k.os, k.tape, k.output, k.size, fun j hj hk => k.block j hj (fun e9 => hk (by rw [e9]))⟩ ?_
  rcases h.2 with ⟨rfl, _⟩ | ⟨g', c, cur, rfl, _⟩
  · exact .inl rfl
  · exact .inr (fun e9 => hne g' rfl (by simpa [Value.ownBlock] using e9))
theorem Only.but {g : Nat} {w w' : World} (h : Only g w w') : But g w w' := ⟨h.os, h.tape, h.output, Nat.le_of_eq h.size.symm, fun k _ hk => h.block k hk⟩
theorem box_grown {w w' : World} {base e size n g : Nat} {v : Value} {xs : List Value} {cs : Array Value} {t : TypeId} (hB : Box g cs t w) (h : w.ownsRow base e size v n xs) (hne : t ≠ e) (hg : w.grownBy w' v.ownBlock) : Box g cs t w' :=
  ⟨(hg.block g hB.lt (fun e9 => own_ne h hB hne g e9.symm rfl)).trans hB.row⟩
section
variable {P : Program} {Q : Exit → Act → World → Prop}
theorem run_storeAt_slice (w : World) (b o : Nat) (ty : TypeId) (oa : Option Addr) (m c : Nat) (ht : w.there b o 1) (hi : (P.info? ty).map (·.size) = some 1) :
    (Instr.storeAt ty (.pointer (some ⟨b, o, none⟩)) (.slice oa m c)).run P w = .ok () (w.setCell ⟨b, o, none⟩ (.slice oa m c)) := by
  have := run_storeCells_cells (P := P) b o [.slice oa m c] 0 w (fun j hj => by simpa using (ht j (by simpa using hj)).1) (fun j hj => by simpa using (ht j (by simpa using hj)).2) (fun v hv => by simp at hv; subst hv; rfl)
  cases hq : P.info? ty with
  | none => simp [hq] at hi
  | some i =>
    have hs : i.size = 1 := by simp [hq] at hi; omega
    simp only [Nat.add_zero, World.setCells] at this
    simp only [Instr.storeAt, Instr.sureAddr, Sem.run_bind, Sem.run_pure, Result.andThen_ok]
    simp [storeVar, sizeOf, typeInfo, hq, Value.cells, hs, this]
theorem wp_store_slice {op : Oper} {a : Act} {w : World} {K : Act → World → Prop} {ty : TypeId} {x y : Operand} {g o : Nat} {oa : Option Addr} {m c : Nat} {cs : Array Value} {t : TypeId} (hB : Box g cs t w) (ho : op.op = .store ty x y) (hx : a.eval x = .pointer (some ⟨g, o, none⟩)) (hy : a.eval y = .slice oa m c)
    (hs : o < cs.size) (hi : (P.info? ty).map (·.size) = some 1) (h : ∀ w', Box g (cs.setIfInBounds o (.slice oa m c)) t w' → Only g w w' → K (a.put op.dst undef) w') : op.wp P a w K Q := by
  unfold Oper.wp execOp
  simp only [ho, hx, hy, run_storeAt_slice w g o ty oa m c (hB.thereAt (by omega)) hi, Sem.run_bind, Sem.run_pure, Result.andThen_ok]
  exact h _ (hB.set _ _) ((Only.refl _ _).setCell _ _)
end
end Go.Proofs.YtlofopnjjeeehaaDoor
