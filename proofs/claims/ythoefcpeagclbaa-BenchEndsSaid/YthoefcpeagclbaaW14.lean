/- How a bench measures, by whether it weighs: the map of methods, and what is looked up in it. -/
import Derived.Test.YthoefcpeagclbaaW13
namespace Go.Proofs.Ythoefcpeagclbaa
open Go.RowKit
set_option maxHeartbeats 400000 in
theorem scaleOf_any (b : Bnch) (oa : Option Addr) (cap : Nat) (w : World) :
    Calls Try.prog 53 #[b.val oa cap] w fun e w' => e = .returned (.iface 99 (b.val oa cap)) ∧ Below w.heap.size w w' := by
  go_enter Try.func53, Try.ntmps53
  go_wp2
  go_ret
  exact ⟨rfl, (by repeat' (first | exact Below.refl _ _ | assumption | apply below_drewN | apply Below.drew | (refine Below.alloc ?_ ?_ _) | (refine Below.setCell ?_ ?_ _) | (simp; done) | (simp; omega) | omega))⟩
set_option maxHeartbeats 400000 in
theorem tankOf_any (b : Bnch) (oa : Option Addr) (cap : Nat) (w : World) :
    Calls Try.prog 54 #[b.val oa cap] w fun e w' => e = .returned (.iface 100 (b.val oa cap)) ∧ Below w.heap.size w w' := by
  go_enter Try.func54, Try.ntmps54
  go_wp2
  go_ret
  exact ⟨rfl, (by repeat' (first | exact Below.refl _ _ | assumption | apply below_drewN | apply Below.drew | (refine Below.alloc ?_ ?_ _) | (refine Below.setCell ?_ ?_ _) | (simp; done) | (simp; omega) | omega))⟩
section
variable {P : Program}
/-- a map from Booleans, a key more -/
theorem run_update_bool {t K E : TypeId} (ht : P.underlying t = some (.map K E)) (hK : P.underlying K = some .bool) {w : World} {r n : Nat} {es : Array MapEntry} {k : Bool} (hr : w.heap[r]? = some (.map es n)) (hf : Instr.findNow .bool (.bool k) es.toList 0 = some none) (v : Value) :
    (Instr.mapUpdate t (.map (some r)) (.bool k) v).run P w = .ok () (w.putObj r (.map (es.push { key := .bool k, val := v, born := n }) (n + 1))) := by
  have hk : MapKept.IsKey .bool (.bool k) := by simp [MapKept.IsKey]
  simp [Instr.mapUpdate, run_underlying ht, MapKept.run_getObj_map hr, MapKept.run_checkKey hK hk, MapKept.run_findKey hK hf, Result.andThen, MapKept.run_setObj_map _ hr, World.putObj]
theorem run_lookup_bool {t K E : TypeId} (ht : P.underlying t = some (.map K E)) (hK : P.underlying K = some .bool) {w : World} {r n j : Nat} {es : Array MapEntry} {k : Bool} {v : Value} (hr : w.heap[r]? = some (.map es n)) (hf : Instr.findNow .bool (.bool k) es.toList 0 = some (some (j, v))) :
    (Instr.lookup t (.map (some r)) (.bool k) false).run P w = .ok v w := by
  have hk : MapKept.IsKey .bool (.bool k) := by simp [MapKept.IsKey]
  simp [Instr.lookup, run_underlying ht, MapKept.run_getObj_map hr, MapKept.run_checkKey hK hk, MapKept.run_findKey hK hf, Result.andThen]
end
/-- the map of the methods -/
def methodsO : Obj := .map #[{ key := .bool true, val := .func (.func 53) #[] #[], born := 0 }, { key := .bool false, val := .func (.func 54) #[] #[], born := 1 }] 2
set_option maxRecDepth 100000 in
set_option maxHeartbeats 400000 in
theorem methods_any (w : World) :
    Calls Try.prog 34 #[] w fun e w' => e = .returned (.map (some w.heap.size)) ∧ w'.heap[w.heap.size]? = some methodsO ∧ Below w.heap.size w w' := by
  have hmm := @run_makeMap Try.prog
  have h1 : (w.alloc (.map #[] 0)).heap[w.heap.size]? = some (.map #[] 0) := World.alloc_heap_new _ _
  have u1 := run_update_bool (P := Try.prog) (t := 70) Try.underlying70 Try.underlying4 (k := true) h1 rfl (.func (.func 53) #[] #[])
  have h2 : ((w.alloc (.map #[] 0)).putObj w.heap.size (.map #[{ key := .bool true, val := .func (.func 53) #[] #[], born := 0 }] 1)).heap[w.heap.size]? = some (.map #[{ key := .bool true, val := .func (.func 53) #[] #[], born := 0 }] 1) := World.putObj_heap_same (by simp)
  have u2 := run_update_bool (P := Try.prog) (t := 70) Try.underlying70 Try.underlying4 (k := false) h2 rfl (.func (.func 54) #[] #[])
  have h3 : (((w.alloc (.map #[] 0)).putObj w.heap.size (.map #[{ key := .bool true, val := .func (.func 53) #[] #[], born := 0 }] 1)).putObj w.heap.size methodsO).heap[w.heap.size]? = some methodsO := World.putObj_heap_same (by simp)
  have H3 := Lib.hid h3
  clear h3
  go_enter Try.func34, Try.ntmps34
  go_wp2
  go_ret
  exact ⟨rfl, H3.out, below_putObj (below_putObj (below_alloc1 _ _) (Nat.le_refl _) _) (Nat.le_refl _) _⟩
end Go.Proofs.Ythoefcpeagclbaa
