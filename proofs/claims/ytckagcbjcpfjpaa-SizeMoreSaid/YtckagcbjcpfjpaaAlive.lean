/- The house and the sizes of the example lie in memory. -/
import Derived.Test.YtckagcbjcpfjpaaPair
import Derived.Test.YtckagcbjcpfjpaaLeast
namespace Go.Proofs.Ytckagcbjcpfjpaa
open Go.RowKit
theorem span_any (a b : Int) (w : World) :
    Calls Try.prog 34 #[.int .i64 a, .int .i64 b] w fun e w' => e = .returned (.agg #[.int .i64 a, .int .i64 b]) ∧ w.alloc (.cells #[.int .i64 a, .int .i64 b] 31) = w' := by
  go_enter Try.func34, Try.ntmps34
  go_wp2
  refine bodyPost_ret (v := .agg #[.int .i64 a, .int .i64 b]) (by simp [results, Try.results34, go_sem]) rfl ⟨rfl, rfl⟩
def exT : Nat → Tap
  | 0 => ⟨300, 400, 100⟩
  | 1 => ⟨600, 800, 150⟩
  | _ => ⟨200, 300, 50⟩
def exR : Nat → Rule := fun _ => ⟨3, 1⟩
def exM : Nat → Meter
  | 0 => ⟨5, 1000, 200, 10⟩
  | 1 => ⟨10, 1500, 250, 15⟩
  | _ => ⟨20, 3000, 250, 30⟩
abbrev exH (head drip : Int) : House := ⟨head, drip, 3, exT, 1, exR⟩
/-- the example's memory: blocks with its taps, rules and sizes -/
def ExAt (n : Nat) (tb rb mb : Nat) (w : World) : Prop :=
  n ≤ tb ∧ n ≤ rb ∧ n ≤ mb ∧ TapsAt w (some ⟨tb, 0, none⟩) 3 exT ∧ RulesAt w (some ⟨rb, 0, none⟩) 1 exR ∧ MetersAt w (some ⟨mb, 0, none⟩) 3 exM
def SamplePost (w : World) (e : Ending) (w' : World) : Prop :=
  ∃ tb rb mb, e = .returned (.tuple #[houseV (exH 400 12) (some ⟨tb, 0, none⟩) (some ⟨rb, 0, none⟩) 3 1, .slice (some ⟨mb, 0, none⟩) 3 3]) ∧ Below w.heap.size w w' ∧ ExAt w.heap.size tb rb mb w'
set_option maxHeartbeats 1000000 in
theorem sample_any (w : World) : Calls Try.prog 24 #[] w (SamplePost w) := by
  go_enter Try.func24, Try.ntmps24
  go_wp2_with (go_at_call 34; refine (span_any _ _ _).mono ?_; rintro e w' ⟨rfl, rfl⟩)
  refine bodyPost_ret (v := .tuple #[houseV (exH 400 12) (some ⟨w.heap.size + 1 + 1 + 1 + 1, 0, none⟩) (some ⟨w.heap.size + 1 + 1 + 1 + 1 + 1, 0, none⟩) 3 1, .slice (some ⟨w.heap.size + 1 + 1 + 1 + 1 + 1 + 1 + 1, 0, none⟩) 3 3]) (by simp [results, Try.results24, go_sem]) rfl ?_
  refine ⟨_, _, _, rfl, (by repeat' (first | exact Below.refl _ _ | assumption | apply below_drewN | apply Below.drew | (refine Below.alloc ?_ ?_ _) | (refine Below.setCell ?_ ?_ _) | (simp; done) | (simp; omega) | omega)), by omega, by omega, by omega, ?_, ?_, ?_⟩
  · intro i hi
    have : i = 0 ∨ i = 1 ∨ i = 2 := by omega
    rcases this with rfl | rfl | rfl
    · exact ⟨_, _, rfl, by simp, by simp [go_sem, exT], by simp [go_sem, exT], by simp [go_sem, exT]⟩
    · exact ⟨_, _, rfl, by simp, by simp [go_sem, exT], by simp [go_sem, exT], by simp [go_sem, exT]⟩
    · exact ⟨_, _, rfl, by simp, by simp [go_sem, exT], by simp [go_sem, exT], by simp [go_sem, exT]⟩
  · intro i hi
    obtain rfl : i = 0 := by omega
    exact ⟨_, _, rfl, by simp, by simp [go_sem, exR], by simp [go_sem, exR]⟩
  · intro i hi
    have : i = 0 ∨ i = 1 ∨ i = 2 := by omega
    rcases this with rfl | rfl | rfl
    · exact ⟨_, _, rfl, by simp, by simp [go_sem, exM], by simp [go_sem, exM], by simp [go_sem, exM], by simp [go_sem, exM]⟩
    · exact ⟨_, _, rfl, by simp, by simp [go_sem, exM], by simp [go_sem, exM], by simp [go_sem, exM], by simp [go_sem, exM]⟩
    · exact ⟨_, _, rfl, by simp, by simp [go_sem, exM], by simp [go_sem, exM], by simp [go_sem, exM], by simp [go_sem, exM]⟩
/-! What the program's functions come to at the example. -/
theorem ex_valid (a b : Int) (ha : 0 ≤ a ∧ a ≤ 10000) (hb : 0 ≤ b ∧ b ≤ 1000000) : (exH a b).valid = true := by
  have h3 : anyB 3 (fun i => tapBad (exT i).lo (exT i).hi (exT i).need) = false := by decide
  have h4 : anyB 1 (fun i => ruleBad 3 (exR i).taps (exR i).most) = false := by decide
  simp [House.valid, h3, h4, withinB, ha, hb]
theorem ex_peak : (exH 400 12).peak = (800, 1100, 6) := by decide +kernel
theorem ex_starvedR : (exH 400 12).starvedR (exM 0) = (6, false, 0) := by decide +kernel
theorem ex_choose : (exH 400 12).chooseR 3 exM = (1, 0) := by decide +kernel
theorem ex_pair : (exH 400 8).pairR 3 exM = (0, 1, 25, 0) := by decide +kernel
theorem ex_full : (exH 400 12).fullB (sizeOf 200 1099) = true ∧ (exH 400 12).fullB (sizeOf 200 1098) = false := by decide +kernel
end Go.Proofs.Ytckagcbjcpfjpaa
