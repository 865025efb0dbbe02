/- Zone: try; what Wrong tries. -/
import Derived.Test.YtipnaeijbbbdoaaW9
import Derived.Tactics2
import Derived.Defers
import Derived.Recover
import Derived.Laws.Pointers
namespace Go.Proofs.Ytipnaeijbbbdoaa
open Go.RowKit
theorem assert_misfit (w : World) : (Instr.typeAssert (.iface 95 (.agg #[])) 20 95 true).run Try.prog w = .ok (.tuple #[.agg #[], .bool true]) w := by
  unfold Instr.typeAssert
  simp [go_sem]
set_option maxRecDepth 100000 in
set_option maxHeartbeats 2000000 in
theorem catch_panicking (p : Nat) (x : Bool) (w : World) (hB : Box p #[.bool x] 4 w) :
    CallsD Try.prog 57 #[.pointer (some ⟨p, 0, none⟩)] (.panicking misfit) w fun e u' w' =>
      (∃ v, e = .returned v) ∧ (∃ q, u' = .panicking [{ v := q, recovered := true }]) ∧ Box p #[.bool false] 4 w' ∧ Same (· ≠ p) w w' := by
  refine callsD_of_wpS Try.func57 rfl fun c₀ cs hu => ?_
  apply wpS_seq
  apply wpS_region
  simp [wpOpsS, go_sem, recoverD, hu, misfit, Try.ntmps57, Exit.thenS]
  apply wpS_seq
  apply wpS_region
  simp [wpOpsS, go_sem, Exit.thenS]
  simp only [Array.replicate_succ, Array.replicate_zero, List.push_toArray, List.nil_append, List.cons_append, List.setIfInBounds_toArray, List.set_cons_zero, List.set_cons_succ, List.append_toArray]
  refine wpS_cond (t := true) rfl ?_
  simp only [if_true]
  refine wpS_of_wp ?_
  have hta := assert_misfit
  have c0 := hB.cell 0 (v := .bool x) rfl
  have f0 := hB.frozen 0
  have l0 := hB.lt
  go_wp2_with fail
  exact ⟨rfl, _, rfl, _, results_none rfl _ _ _, ⟨_, rfl⟩, ⟨_, rfl⟩, (hB.set 0 (.bool false)).old _, ((Same.refl _ _).setCell (fun h => absurd rfl h) _).alloc _⟩
set_option maxRecDepth 100000 in
set_option maxHeartbeats 2000000 in
theorem catch_idle (p : Nat) (w : World) :
    CallsD Try.prog 57 #[.pointer (some ⟨p, 0, none⟩)] .returning w fun e u' w' => (∃ v, e = .returned v) ∧ u' = .returning ∧ w' = w := by
  refine callsD_of_wpS Try.func57 rfl fun c₀ cs hu => ?_
  apply wpS_seq
  apply wpS_region
  simp [wpOpsS, go_sem, recoverD, hu, Try.ntmps57, Exit.thenS]
  apply wpS_seq
  apply wpS_region
  simp [wpOpsS, go_sem, Exit.thenS]
  simp only [Array.replicate_succ, Array.replicate_zero, List.push_toArray, List.nil_append, List.cons_append, List.setIfInBounds_toArray, List.set_cons_zero, List.set_cons_succ, List.append_toArray]
  refine wpS_cond (t := false) rfl ?_
  simp only [Bool.false_eq_true, if_false]
  refine wpS_of_wp (wp_skip ?_)
  cases c₀
  simp only at hu
  subst hu
  exact ⟨rfl, _, rfl, _, results_none rfl _ _ _, ⟨_, rfl⟩, rfl, rfl⟩
theorem res4 {fn : Func} {p : Tmp} (h : fn.results = #[.cell p 4]) (tmps : Array Value) (w : World) (g : Nat) (b : Bool) (hp : tmps.getD p undef = .pointer (some ⟨g, 0, none⟩)) (hB : Box g #[.bool b] 4 w) :
    (results fn tmps).run Try.prog w = .ok (.bool b) w := by
  have hp' : tmps[p]?.getD undef = .pointer (some ⟨g, 0, none⟩) := by simpa using hp
  have c1 := hB.cell 0 (v := .bool b) rfl
  unfold results
  simp only [h]
  simp [hp', asAddr, c1, go_sem]
set_option maxRecDepth 100000 in
set_option maxHeartbeats 4000000 in
/-- try: it does something; whether it has gone through -/
theorem try_any (fk : Nat) (caps : Array Value) (eg : ∀ args w, (callFunc fk args).run Try.prog w = .ok (.enter fk args) w) (gt : Nat) (w : World) (Rt Rf : World → Prop) (hgt : gt < w.heap.size)
    (h : ∀ w1, Below w.heap.size w w1 → Calls Try.prog fk caps w1 fun e w' => Same (· ≠ gt) w1 w' ∧ (((∃ v, e = .returned v) ∧ Rt w') ∨ (e = .panicked misfit ∧ Rf w'))) :
    Calls Try.prog 33 #[.func (.func fk) #[] caps] w fun e w' => ∃ w2, Same (· ≠ gt) w w2 ∧ Same (· ≠ w.heap.size) w2 w' ∧ ((e = .returned (.bool true) ∧ Rt w2) ∨ (e = .returned (.bool false) ∧ Rf w2)) := by
  have HH := Lib.hid (h (w.alloc (.cells #[.bool false] 4)) (below_alloc1 w _))
  clear h
  have hmf : ∀ (fn : Fn) (first cap : Array Value) (w : World), (Instr.makeFunc fn first cap).run Try.prog w = .ok (.func fn first cap) w := fun _ _ _ _ => rfl
  go_enter_defers Try.func33, Try.ntmps33
  go_wp2_with fail
  have hB0 := Box.new (g := w.heap.size) #[.bool false] 4 w rfl
  refine HH.out.mono ?_
  rintro e w2 ⟨hs, ⟨⟨v, rfl⟩, ht⟩ | ⟨rfl, hf⟩⟩
  · have hb : Box w.heap.size #[.bool false] 4 w2 := ⟨(hs.block _ hB0.lt (by omega)).trans hB0.row⟩
    have c0 := hb.cell 0 (v := .bool false) rfl
    have f0 := hb.frozen 0
    have l0 := hb.lt
    go_wp2_with fail
    refine leaves_cons (f := 57) (args := #[.pointer (some ⟨w.heap.size, 0, none⟩)]) (by simp) (by simp [go_sem]) ?_
    refine (catch_idle w.heap.size _).mono ?_
    rintro e u' w'' ⟨⟨v, rfl⟩, rfl, rfl⟩
    have hb2 := hb.set 0 (.bool true)
    refine ⟨.bool true, res4 rfl _ _ w.heap.size true rfl hb2, w2, ((Same.refl _ w).alloc _).trans hs, (Same.refl _ _).setCell (fun h => absurd rfl h) _, .inl ⟨rfl, ht⟩⟩
  · have hb : Box w.heap.size #[.bool false] 4 w2 := ⟨(hs.block _ hB0.lt (by omega)).trans hB0.row⟩
    refine leaves_cons (f := 57) (args := #[.pointer (some ⟨w.heap.size, 0, none⟩)]) (by simp) (by simp [go_sem]) ?_
    refine (catch_panicking w.heap.size false _ hb).mono ?_
    rintro e u' w'' ⟨⟨v, rfl⟩, ⟨q, rfl⟩, hb2, hs2⟩
    refine ⟨.bool false, res4 rfl _ _ w.heap.size false rfl hb2, w2, ((Same.refl _ w).alloc _).trans hs, hs2, .inr ⟨rfl, hf⟩⟩
end Go.Proofs.Ytipnaeijbbbdoaa
