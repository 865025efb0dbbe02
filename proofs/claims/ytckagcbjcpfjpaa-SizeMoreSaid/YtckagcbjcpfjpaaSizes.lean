/- isSize and isList return whether sizes are valid. -/
import Derived.Test.YtckagcbjcpfjpaaStarved
namespace Go.Proofs.Ytckagcbjcpfjpaa
open Go.RowKit
def Meter.valid (m : Meter) : Bool := withinB m.full 1 1000000 && withinB m.start 0 m.full && withinB m.loss 0 10000 && withinB m.price 0 1000000
set_option maxHeartbeats 1000000 in
theorem isSize_any (m : Meter) (w : World) :
    Calls Try.prog 38 #[m.val] w fun e w' => e = .returned (.bool m.valid) ∧ Below w.heap.size w w' := by
  obtain ⟨start, full, loss, price⟩ := m
  go_enter Try.func38, Try.ntmps38
  go_wp2_with (first | (go_at_call 50; refine (within_any _ _ _ _).mono ?_; rintro e w' ⟨rfl, rfl⟩) | (go_at_call 43; refine (isHead_any _ _).mono ?_; rintro e w' ⟨rfl, rfl⟩))
  all_goals (go_ret; refine ⟨ret_bool ?_, (by repeat' (first | exact Below.refl _ _ | assumption | apply below_drewN | apply Below.drew | (refine Below.alloc ?_ ?_ _) | (refine Below.setCell ?_ ?_ _) | (simp; done) | (simp; omega) | omega))⟩; simp [Meter.valid, *])
/-- the size list's closure: what it says of a size behind the last Full -/
def sizeBad (last : Int) (m : Meter) : Bool := !(m.valid && decide (m.full > last))
set_option maxHeartbeats 1000000 in
theorem isList1_any (m : Meter) (last : Int) (lb : Nat) (w : World) (hb : lb < w.heap.size) (hc : w.cell? ⟨lb, 0, none⟩ = some (.int .i64 last)) (hf : w.frozen? ⟨lb, 0, none⟩ = false) :
    Calls Try.prog 64 #[m.val, .pointer (some ⟨lb, 0, none⟩)] w fun e w' => e = .returned (.bool (sizeBad last m)) ∧ w'.cell? ⟨lb, 0, none⟩ = some (.int .i64 m.full) ∧ w'.frozen? ⟨lb, 0, none⟩ = false ∧ Same (· ≠ lb) w w' := by
  obtain ⟨start, full, loss, price⟩ := m
  go_enter Try.func64, Try.ntmps64
  go_wp2_with fail
  refine (isSize_any ⟨start, full, loss, price⟩ _).mono ?_
  rintro e w1 ⟨rfl, hb1⟩
  have hs1 := hb1.size
  simp only [World.size_alloc] at hs1
  have q1 : w1.cell? ⟨w.heap.size, 1, none⟩ = some (.int .i64 full) := (hb1.cell (p := ⟨w.heap.size, 1, none⟩) (by simp)).trans (by simp [go_sem])
  have ql : w1.cell? ⟨lb, 0, none⟩ = some (.int .i64 last) := (hb1.cell (p := ⟨lb, 0, none⟩) (by simp; omega)).trans (by simp [go_sem, hb, hc])
  have qf : w1.frozen? ⟨lb, 0, none⟩ = false := (hb1.frozen (p := ⟨lb, 0, none⟩) (by simp; omega)).trans (by simp [go_sem, hb, hf])
  have hne : w.heap.size ≠ lb := by omega
  have hS : Same (· ≠ lb) w w1 := (Same.refl _ w).alloc _ |>.trans (Same.of_below hb1 fun k hk _ => hk)
  by_cases hm : Meter.valid ⟨start, full, loss, price⟩ = true
  · by_cases hl : last < full
    · have HM := Lib.hid hm
      have HL := Lib.hid hl
      clear hb1 hc hf
      go_wp2
      go_ret
      refine ⟨ret_bool (by simp [sizeBad, HM.out, HL.out]), ?_, ?_, ?_⟩
      · simp [go_sem, ql]
      · simp [go_sem, qf]
      · exact hS.setCell (fun h => absurd rfl h) _
    · have HM := Lib.hid hm
      have HL := Lib.hid hl
      clear hb1 hc hf
      go_wp2
      go_ret
      refine ⟨ret_bool (by have := HL.out; simp [sizeBad, HM.out]; try omega), ?_, ?_, ?_⟩
      · simp [go_sem, ql]
      · simp [go_sem, qf]
      · exact hS.setCell (fun h => absurd rfl h) _
  · replace hm : Meter.valid ⟨start, full, loss, price⟩ = false := by simpa using hm
    have HM := Lib.hid hm
    clear hb1 hc hf
    go_wp2
    go_ret
    refine ⟨ret_bool (by simp [sizeBad, HM.out]), ?_, ?_, ?_⟩
    · simp [go_sem, ql]
    · simp [go_sem, qf]
    · exact hS.setCell (fun h => absurd rfl h) _
/-- the Full before a size -/
def lastFull (t : Nat → Meter) (k : Nat) : Int := if k = 0 then 0 else (t (k - 1)).full
def IdxPost2 (lb : Nat) (w : World) (n : Nat) (p : Nat → Bool) (e : Ending) (w' : World) : Prop := ∃ r : Int, e = .returned (.int .i64 r) ∧ (0 ≤ r ↔ anyB n p = true) ∧ Same (· ≠ lb) w w'
set_option maxHeartbeats 1000000 in
theorem indexSizes_any (oa : Option Addr) (n cap lb : Nat) (t : Nat → Meter) (w0 w : World) (hn : n ≤ 1000000) (hT : MetersAt w0 oa n t) (hw0 : Below w0.heap.size w0 w) (hlb0 : w0.heap.size ≤ lb) (hb : lb < w.heap.size) (hc : w.cell? ⟨lb, 0, none⟩ = some (.int .i64 0)) (hf : w.frozen? ⟨lb, 0, none⟩ = false) :
    Calls Try.prog 67 #[.slice oa n cap, .func (.func 64) #[] #[.pointer (some ⟨lb, 0, none⟩)]] w (IdxPost2 lb w n fun i => sizeBad (lastFull t i) (t i)) := by
  have HT := Lib.hid hT
  clear hT
  go_enter Try.func67, Try.ntmps67
  go_wp2
  go_loopw [5, 8] (fun v5 v8 wr => ∃ k : Nat, k ≤ n ∧ v8 = .int .i64 k ∧ Same (· ≠ lb) w wr ∧ wr.cell? ⟨lb, 0, none⟩ = some (.int .i64 (lastFull t k)) ∧ wr.frozen? ⟨lb, 0, none⟩ = false ∧ ∀ i, i < k → sizeBad (lastFull t i) (t i) = false) (fun _ i _ => n - (intOf i).toNat)
  case atStart => exact ⟨0, Nat.zero_le _, rfl, Same.refl _ _, hc, hf, fun i hi => by omega⟩
  case round =>
    obtain ⟨k, hk, rfl, hb0, hcell, hfr, hno⟩ := hrel
    have HN := Lib.hid hno
    clear hno
    have hbw : Below w0.heap.size w0 wr := hw0.trans (hb0.below hw0.size (fun k hk => by omega))
    have hsz := hb0.size
    by_cases hlt : k < n
    · obtain ⟨b, off, rfl, hlt0, h0, h1, h2, h3⟩ := (HT.out.mono hbw) k hlt
      by_cases hbad : sizeBad (lastFull t k) (t k) = true
      · have HB := Lib.hid hbad
        go_wp2_with (go_at_call 64; refine (isList1_any (t k) (lastFull t k) lb _ (by omega) hcell hfr).mono ?_; rintro e w1 ⟨rfl, k1, k2, k3⟩)
        go_ret
        exact ⟨k, rfl, ⟨fun _ => anyB_iff.2 ⟨k, hlt, HB.out⟩, fun _ => by omega⟩, hb0.trans k3⟩
      · replace hbad : sizeBad (lastFull t k) (t k) = false := by simpa using hbad
        have HB := Lib.hid hbad
        go_wp2_with (go_at_call 64; refine (isList1_any (t k) (lastFull t k) lb _ (by omega) hcell hfr).mono ?_; rintro e w1 ⟨rfl, k1, k2, k3⟩)
        go_roundw
        case rel => exact ⟨k + 1, by omega, by go_num, hb0.trans k3, by simpa [lastFull] using k1, k2, fun i hi => by
          by_cases h : i = k
          · subst h; exact HB.out
          · exact HN.out i (by omega)⟩
        case measure => simp [intOf]; omega
    · go_wp2
      go_ret
      exact ⟨-1, rfl, ⟨fun h => by omega, fun h => by
        obtain ⟨i, hi, hp⟩ := anyB_iff.1 h
        rw [HN.out i (by omega)] at hp
        simp at hp⟩, hb0⟩
set_option maxHeartbeats 400000 in
theorem containsSizes_any (oa : Option Addr) (n cap lb : Nat) (t : Nat → Meter) (w0 w : World) (hn : n ≤ 1000000) (hT : MetersAt w0 oa n t) (hw0 : Below w0.heap.size w0 w) (hlb0 : w0.heap.size ≤ lb) (hb : lb < w.heap.size) (hc : w.cell? ⟨lb, 0, none⟩ = some (.int .i64 0)) (hf : w.frozen? ⟨lb, 0, none⟩ = false) :
    Calls Try.prog 65 #[.slice oa n cap, .func (.func 64) #[] #[.pointer (some ⟨lb, 0, none⟩)]] w fun e w' => e = .returned (.bool (anyB n fun i => sizeBad (lastFull t i) (t i))) ∧ Same (· ≠ lb) w w' := by
  have HT := Lib.hid hT
  clear hT
  go_enter Try.func65, Try.ntmps65
  go_wp2_with fail
  refine (indexSizes_any oa n cap lb t w0 _ hn HT.out hw0 hlb0 hb hc hf).mono ?_
  rintro e w1 ⟨r, rfl, hr, hb⟩
  have HR := Lib.hid hr
  clear hr
  by_cases h0 : 0 ≤ r
  · go_wp2
    go_ret
    exact ⟨ret_bool (by rw [HR.out.1 h0]), hb⟩
  · go_wp2
    go_ret
    exact ⟨ret_bool (by
      have : ¬ anyB n (fun i => sizeBad (lastFull t i) (t i)) = true := fun h => by have := HR.out.2 h; omega
      simp only [Bool.not_eq_true] at this
      rw [this]; simp; omega), hb⟩
/-- a list of sizes is valid -/
def listB (n : Nat) (t : Nat → Meter) : Bool := decide (n ≤ 12) && !anyB n fun i => sizeBad (lastFull t i) (t i)
set_option maxHeartbeats 400000 in
theorem isList_any (oa : Option Addr) (n cap : Nat) (t : Nat → Meter) (w : World) (hn : n ≤ 1000000) (hT : MetersAt w oa n t) :
    Calls Try.prog 58 #[.slice oa n cap] w fun e w' => e = .returned (.bool (listB n t)) ∧ Below w.heap.size w w' := by
  have HT := Lib.hid hT
  clear hT
  by_cases h12 : n ≤ 12
  · have H12 := Lib.hid h12
    go_enter Try.func58, Try.ntmps58
    go_wp2_with fail
    refine (containsSizes_any oa n cap w.heap.size t w _ hn HT.out (below_alloc1 _ _) (Nat.le_refl _) (by simp) (by simp [go_sem]) (by simp [go_sem])).mono ?_
    rintro e w1 ⟨rfl, hs⟩
    go_wp2
    go_ret
    exact ⟨ret_bool (by simp [listB, H12.out]), (below_alloc1 _ _).trans (hs.below (by simp) (fun k hk => by omega))⟩
  · have H12 := Lib.hid h12
    go_enter Try.func58, Try.ntmps58
    go_wp2_with fail
    go_ret
    exact ⟨ret_bool (by have := H12.out; simp [listB]; omega), (by repeat' (first | exact Below.refl _ _ | assumption | apply below_drewN | apply Below.drew | (refine Below.alloc ?_ ?_ _) | (refine Below.setCell ?_ ?_ _) | (simp; done) | (simp; omega) | omega))⟩
end Go.Proofs.Ytckagcbjcpfjpaa
