/- How a map of sets to draws is read and written. -/
import Derived.WalkKit
import Derived.RangeFuncRecord
namespace Go.Proofs.Ytckagcbjcpfjpaa
open Go.RowKit
/-- a map whose keys are the numbers below k, laid in their order -/
def entsOf (f : Nat → Value) (k : Nat) : Array MapEntry := ((List.range k).map fun (i : Nat) => ({ key := .int .i64 (i : Int), val := f i, born := i } : MapEntry)).toArray
def drawsO (f : Nat → Value) (k : Nat) : Obj := .map (entsOf f k) k
theorem entsOf_size (f : Nat → Value) (k : Nat) : (entsOf f k).size = k := by simp [entsOf]
theorem entsOf_succ (f : Nat → Value) (k : Nat) : entsOf f (k + 1) = (entsOf f k).push { key := .int .i64 (k : Int), val := f k, born := k } := by
  simp [entsOf, List.range_succ]
theorem findNow_app (kind : TypeDesc) (key : Value) (a b : List MapEntry) (i : Nat) (h : ∀ e ∈ a, Instr.sameNow kind key e.key = some false) :
    Instr.findNow kind key (a ++ b) i = Instr.findNow kind key b (i + a.length) := by
  induction a generalizing i with
  | nil => simp
  | cons e es ih =>
    simp only [List.cons_append, Instr.findNow, h e (by simp), List.length_cons]
    rw [ih (i + 1) (fun e he => h e (by simp [he]))]
    congr 1
    omega
theorem findNow_draws (f : Nat → Value) (k j : Nat) :
    Instr.findNow (.int .i64) (.int .i64 (j : Int)) (entsOf f k).toList 0 = if j < k then some (some (j, f j)) else some none := by
  by_cases h : j < k
  · rw [if_pos h]
    have e : (entsOf f k).toList = ((List.range j).map fun (i : Nat) => ({ key := .int .i64 (i : Int), val := f i, born := i } : MapEntry)) ++ ({ key := .int .i64 (j : Int), val := f j, born := j } : MapEntry) :: ((List.range (k - j - 1)).map fun (i : Nat) => ({ key := .int .i64 ((j + 1 + i : Nat) : Int), val := f (j + 1 + i), born := j + 1 + i } : MapEntry)) := by
      obtain ⟨m, rfl⟩ : ∃ m, k = (j + 1) + m := ⟨k - j - 1, by omega⟩
      have hm : j + 1 + m - j - 1 = m := by omega
      simp only [entsOf]
      rw [hm, List.range_add, List.range_succ]
      simp [List.map_append, List.map_map, Function.comp_def]
    rw [e, findNow_app _ _ _ _ _ (by
      intro e he
      simp only [List.mem_map, List.mem_range] at he
      obtain ⟨i, hi, rfl⟩ := he
      simp [Instr.sameNow]; omega)]
    simp [Instr.findNow, Instr.sameNow]
  · rw [if_neg h]
    have e : (entsOf f k).toList = (entsOf f k).toList ++ [] := by simp
    rw [e, findNow_app _ _ _ _ _ (by
      intro e he
      simp only [entsOf, List.mem_map, List.mem_range] at he
      obtain ⟨i, hi, rfl⟩ := he
      simp [Instr.sameNow]; omega)]
    simp [Instr.findNow]
variable {P : Program}
theorem run_lookup_draws {t K E : TypeId} (ht : P.underlying t = some (.map K E)) (hK : P.underlying K = some (.int .i64)) {w : World} {r k j : Nat} {f : Nat → Value} (hr : w.heap[r]? = some (drawsO f k)) (hj : j < k) :
    (Instr.lookup t (.map (some r)) (.int .i64 (j : Int)) false).run P w = .ok (f j) w := by
  have hf := findNow_draws f k j
  rw [if_pos hj] at hf
  have hk : MapKept.IsKey (.int .i64) (.int .i64 (j : Int)) := by simp [MapKept.IsKey]
  simp [Instr.lookup, run_underlying ht, MapKept.run_getObj_map hr, MapKept.run_checkKey hK hk, MapKept.run_findKey hK hf, Result.andThen]
theorem run_update_draws {t K E : TypeId} (ht : P.underlying t = some (.map K E)) (hK : P.underlying K = some (.int .i64)) {w : World} {r k : Nat} {f : Nat → Value} (hr : w.heap[r]? = some (drawsO f k)) (v : Value) (hv : v = f k) :
    (Instr.mapUpdate t (.map (some r)) (.int .i64 (k : Int)) v).run P w = .ok () (w.putObj r (drawsO f (k + 1))) := by
  have hf := findNow_draws f k k
  rw [if_neg (by omega)] at hf
  subst hv
  have hk : MapKept.IsKey (.int .i64) (.int .i64 (k : Int)) := by simp [MapKept.IsKey]
  simp [Instr.mapUpdate, run_underlying ht, MapKept.run_getObj_map hr, MapKept.run_checkKey hK hk, MapKept.run_findKey hK hf, Result.andThen, MapKept.run_setObj_map _ hr, drawsO, entsOf_succ, World.putObj]
end Go.Proofs.Ytckagcbjcpfjpaa
