/- A region that draws its order, whose calls make memory but change nothing old, is walked once. -/
import Derived.WalkKit
import Derived.BigQuiet
import Derived.Test.YtckagcbjcpfjpaaData
namespace Go.Proofs.Ytckagcbjcpfjpaa
open Go.RowKit
/-- the worlds behind w in which nothing old has changed -/
structure Aft (w : World) : Type where
  val : World
  below : Below w.heap.size w val
instance aftNonempty (w : World) : Nonempty (Aft w) := ⟨⟨w, Below.refl _ _⟩⟩
section
variable {P : Program}
theorem wp_region_aft {id : Nat} {Q : Exit → Act → World → Prop} {a : Act} {w : World} {l : List Oper} (hm : P.follows .mixedOrders = true) (hB : Region.lexB .any l.toArray = true)
    (h : wpQuiet P l.toArray (fun w' => ∃ W : Aft w, w' = W.val) (fun a' => ∀ W : Aft w, Q .normal a' W.val) l a) : (Code.region id l.toArray true).wp P Q a w := by
  refine wp_region_quiet (C := fun w' => ∃ W : Aft w, w' = W.val) hm hB ⟨⟨w.drew, (Below.refl _ _).drew⟩, rfl⟩ ?_
  have e : (fun a' => ∀ w', (∃ W : Aft w, w' = W.val) → Q .normal a' w') = fun a' => ∀ W : Aft w, Q .normal a' W.val := by
    funext a'
    exact propext ⟨fun h W => h _ ⟨W, rfl⟩, fun h w' ⟨W, e⟩ => e ▸ h W⟩
  rw [e]
  simpa using h
theorem aft_call {f : FuncId} {args : Array Value} {w : World} {W : Aft w} {v : Value} (h : Calls P f args W.val fun e w' => e = .returned v ∧ Below W.val.heap.size W.val w') :
    Calls P f args W.val fun e w'' => e = .returned v ∧ ∃ W' : Aft w, w'' = W'.val :=
  h.mono fun _ w' h => ⟨h.1, ⟨⟨w', W.below.trans (h.2.mono W.below.size)⟩, rfl⟩⟩
end
end Go.Proofs.Ytckagcbjcpfjpaa
