/- streetsOf calls something for each street of a set, the least one first. -/
import Derived.Test.YtmeeknmjhlfnaaaDoorW7
namespace Go.Proofs.YtmeeknmjhlfnaaaDoor
open Go.RowKit
/-- the streets of a set -/
def stL (x : Nat) : List Nat := (List.range 10).filter (hasB x)
theorem st_all : (List.range 1024).all (fun x => decide (x = 0 ∨ (stL x = Lib.ctz 64 x :: stL (x &&& (x - 1)) ∧ x &&& (x - 1) < 1024))) = true := by kernel_rfl
theorem st_step {x : Nat} (hx : x < 1024) (h0 : x ≠ 0) : stL x = Lib.ctz 64 x :: stL (x &&& (x - 1)) ∧ x &&& (x - 1) < 1024 := (of_decide_eq_true (List.all_eq_true.1 st_all x (List.mem_range.2 hx))).resolve_left h0
theorem st_mem {x s : Nat} (h : s ∈ stL x) : s < 10 := by
  simp only [stL, List.mem_filter, List.mem_range] at h; exact h.1
theorem st_zero : stL 0 = [] := by decide
theorem st_len (x : Nat) : (stL x).length ≤ 10 := by
  have := List.length_filter_le (hasB x) (List.range 10)
  simpa [stL] using this
set_option maxHeartbeats 4000000 in
theorem streetsOf_any (x : Nat) (hx : x < 1024) (fk : Nat) (caps : Array Value) (eg : ∀ args w, (callFunc fk args).run Tryd.prog w = .ok (.enter fk args) w) (I : List Nat → World → Prop) (w : World) (hT : ∀ pre W, I pre W → TabAt 1 Lib.deBruijn64tab W) (h0 : I [] w)
    (hstep : ∀ pre s rest W, stL x = pre ++ s :: rest → I pre W → Calls Tryd.prog fk (#[.int .i64 (pre.length : Nat), .int .i64 (s : Nat)] ++ caps) W fun e W' => (∃ v, e = .returned v) ∧ I (pre ++ [s]) W') :
    Calls Tryd.prog 26 #[.int .i64 x, .func (.func fk) #[] caps] w fun e w' => (∃ v, e = .returned v) ∧ I (stL x) w' := by
  have HS := Lib.hid hstep
  have HTab := Lib.hid hT
  clear hstep hT
  go_enter Tryd.func26, Tryd.ntmps26
  go_wp2_with fail
  go_loopw [4, 5] (fun v4 v5 wr => ∃ (pre : List Nat) (y : Nat), y < 1024 ∧ stL x = pre ++ stL y ∧ v4 = .int .i64 (pre.length : Nat) ∧ v5 = .int .u64 y ∧ I pre wr) (fun _ i _ => (intOf i).toNat)
  case atStart => exact ⟨[], x, hx, rfl, rfl, rfl, h0⟩
  case round =>
    obtain ⟨pre, y, hy, hsp, rfl, rfl, hI⟩ := hrel
    by_cases hy0 : y = 0
    · subst hy0
      rw [st_zero, List.append_nil] at hsp
      have HP := Lib.hid hsp
      clear hsp
      go_wp2_with fail
      first | go_end0 | skip
      exact ⟨⟨_, rfl⟩, by rw [HP.out]; exact hI⟩
    · have hz : ((y : Int) != 0) = true := by simp; omega
      obtain ⟨s1, s2⟩ := st_step hy hy0
      have hl := st_len x
      rw [hsp, s1] at hl
      simp at hl
      have HP := Lib.hid hsp
      have H1 := Lib.hid s1
      clear hsp s1
      go_wp2_with fail
      refine (tz_any y hy0 (by omega) _ (HTab.out _ _ hI)).mono ?_
      rintro e w' ⟨rfl, rfl⟩
      go_wp2_with fail
      refine (HS.out pre (Lib.ctz 64 y) (stL (y &&& (y - 1))) _ (by rw [HP.out, H1.out]) hI).mono ?_
      rintro e W2 ⟨⟨v, rfl⟩, hI2⟩
      have HI2 := Lib.hid hI2
      have V1 : bits BinOp.and IntKind.u64 (y : Int) ((y : Int) - 1) = ((y &&& (y - 1) : Nat) : Int) := by
        have h9 := bits_and_u64_nat y (y - 1) (by omega) (by omega)
        rw [show ((y - 1 : Nat) : Int) = (y : Int) - 1 by omega] at h9
        exact h9
      have hlt : y &&& (y - 1) ≤ y - 1 := Nat.and_le_right
      generalize Lib.ctz 64 y = c at *
      clear hI hI2
      go_wp2_with fail
      go_roundw
      case rel => exact ⟨pre ++ [c], y &&& (y - 1), s2, by rw [HP.out, H1.out, List.append_assoc]; rfl, by rw [List.length_append]; go_num, rfl, HI2.out⟩
      case measure => simp [intOf]; omega
end Go.Proofs.YtmeeknmjhlfnaaaDoor
