/- The document's Size and Sizes say what the program's own tests say. -/
import Derived.Test.YtckagcbjcpfjpaaR1
import Derived.Test.YtckagcbjcpfjpaaSizes
import Derived.Test.YtckagcbjcpfjpaaAft
namespace Go.Proofs.Ytckagcbjcpfjpaa
open Go.RowKit
set_option maxHeartbeats 1000000 in
theorem refSize_any (m : Meter) (w : World) :
    Calls Try.prog 30 #[m.val] w fun e w' => e = .returned (.bool m.valid) ∧ Below w.heap.size w w' := by
  obtain ⟨start, full, loss, price⟩ := m
  rcases c1 : withinB full 1 1000000 <;> rcases c2 : withinB start 0 full <;> rcases c3 : withinB loss 0 10000 <;> rcases c4 : withinB price 0 1000000
  all_goals
    have HF := Lib.hid (show Meter.valid ⟨start, full, loss, price⟩ = (withinB full 1 1000000 && withinB start 0 full && withinB loss 0 10000 && withinB price 0 1000000) from rfl)
    rw [c1, c2, c3, c4] at HF
    go_enter Try.func30, Try.ntmps30
    go_wp2_with (go_at_call 46; refine (in_any _ _ _ _).mono ?_; rintro e w' ⟨rfl, rfl⟩)
    go_ret
    exact ⟨ret_bool HF.out.symm, (by repeat' (first | exact Below.refl _ _ | assumption | apply below_drewN | apply Below.drew | (refine Below.alloc ?_ ?_ _) | (refine Below.setCell ?_ ?_ _) | (simp; done) | (simp; omega) | omega))⟩
theorem listB_of_bad {n : Nat} {t : Nat → Meter} {k : Nat} (hk : k < n) (hb : sizeBad (lastFull t k) (t k) = true) : listB n t = false := by
  have : anyB n (fun i => sizeBad (lastFull t i) (t i)) = true := anyB_iff.2 ⟨k, hk, hb⟩
  simp [listB, this]
theorem anyB_no {n : Nat} {p : Nat → Bool} (h : ∀ i, i < n → p i = false) : anyB n p = false := by
  cases hc : anyB n p with
  | false => rfl
  | true =>
    obtain ⟨i, hi, hp⟩ := anyB_iff.1 hc
    rw [h i hi] at hp; cases hp
theorem listB_of_none {n : Nat} {t : Nat → Meter} (hb : ∀ i, i < n → sizeBad (lastFull t i) (t i) = false) : listB n t = decide (n ≤ 12) := by
  simp [listB, anyB_no hb]
theorem valid_full {m : Meter} (h : m.valid = true) : 1 ≤ m.full := by
  simp only [Meter.valid, withinB, Bool.and_eq_true, decide_eq_true_eq] at h
  omega
set_option maxHeartbeats 2000000 in
theorem refSizes_any (oa : Option Addr) (n cap : Nat) (t : Nat → Meter) (w : World) (hn : n ≤ 1000000) (hT : MetersAt w oa n t) :
    Calls Try.prog 29 #[.slice oa n cap] w fun e w' => e = .returned (.bool (listB n t)) ∧ Below w.heap.size w w' := by
  have HT := Lib.hid hT
  clear hT
  go_enter Try.func29, Try.ntmps29
  go_wp2
  go_loopw [3] (fun v3 wr => ∃ k : Nat, k ≤ n ∧ v3 = .int .i64 k ∧ Below w.heap.size w wr ∧ ∀ i, i < k → sizeBad (lastFull t i) (t i) = false) (fun i _ => n - (intOf i).toNat)
  case atStart => exact ⟨0, Nat.zero_le _, rfl, Below.refl _ _, fun i hi => by omega⟩
  case round =>
    obtain ⟨k, hk, rfl, hb, hno⟩ := hrel
    have HN := Lib.hid hno
    clear hno
    have hsz := hb.size
    by_cases hlt : k < n
    · obtain ⟨b, off, rfl, hlt0, m0, m1, m2, m3⟩ := (HT.out.mono hb) k hlt
      have r0 : ∀ W : Aft wr, W.val.cell? ⟨b, off + k * 4, none⟩ = some (.int .i64 (t k).start) := fun W => (W.below.cell hlt0).trans m0
      have r1 : ∀ W : Aft wr, W.val.cell? ⟨b, off + k * 4 + 1, none⟩ = some (.int .i64 (t k).full) := fun W => (W.below.cell hlt0).trans m1
      have r2 : ∀ W : Aft wr, W.val.cell? ⟨b, off + k * 4 + 2, none⟩ = some (.int .i64 (t k).loss) := fun W => (W.below.cell hlt0).trans m2
      have r3 : ∀ W : Aft wr, W.val.cell? ⟨b, off + k * 4 + 3, none⟩ = some (.int .i64 (t k).price) := fun W => (W.below.cell hlt0).trans m3
      have HC : Hid (∀ W : Aft wr, Calls Try.prog 30 #[.agg #[.int .i64 (t k).start, .int .i64 (t k).full, .int .i64 (t k).loss, .int .i64 (t k).price]] W.val fun e w' => e = .returned (.bool (t k).valid) ∧ Below W.val.heap.size W.val w') := Lib.hid (fun W => refSize_any _ _)
      clear m0 m1 m2 m3
      by_cases hv : (t k).valid = true
      · rw [hv] at HC
        by_cases hk0 : k = 0
        · have HB := Lib.hid (show sizeBad (lastFull t k) (t k) = false by have := valid_full hv; subst hk0; simp [sizeBad, lastFull, hv]; omega)
          have hkz : decide (0 < k) = false := by simp [hk0]
          clear hk0
          go_wp2
          refine wp_region_aft (by kernel_rfl) (by kernel_rfl) ?_
          repeat (go_big_quiet_step ((go_at_call 30; exact aft_call (HC.out _))))
          refine wpQuiet_nil ?_
          rintro ⟨wq, hbq⟩
          go_wp2
          go_roundw
          case rel => exact ⟨k + 1, by omega, by go_num, hb.trans (hbq.mono hsz), fun i hi => by
            by_cases h : i = k
            · subst h; exact HB.out
            · exact HN.out i (by omega)⟩
          case measure => simp [intOf]; omega
        · obtain ⟨j, hj⟩ : ∃ j : Nat, k = j + 1 := ⟨k - 1, by omega⟩
          have hlast : lastFull t k = (t j).full := by subst hj; simp [lastFull]
          obtain ⟨b', off', hbo', hlt1, p0, p1, p2, p3⟩ := (HT.out.mono hb) j (by omega)
          cases hbo'
          have r4 : ∀ W : Aft wr, W.val.cell? ⟨b, off + j * 4 + 1, none⟩ = some (.int .i64 (t j).full) := fun W => (W.below.cell hlt0).trans p1
          have hkz : decide (0 < k) = true := by simp; omega
          have e1 : IntKind.i64.wrap ((k : Int) - 1) = (j : Int) := by rw [show (k : Int) - 1 = (j : Int) by omega]; exact IntWalk.i64_in _ (by omega)
          have e2 : wrap64 ((k : Int) - 1) = (j : Int) := (IntWalk.i64_left _).symm.trans e1
          have hjn : (j : Int) < n := by omega
          clear p0 p1 p2 p3 hj
          by_cases hle : (t k).full ≤ (t j).full
          · have HB := Lib.hid (listB_of_bad hlt (show sizeBad (lastFull t k) (t k) = true by rw [hlast]; simp [sizeBad, hv]; omega))
            go_wp2
            refine wp_region_aft (by kernel_rfl) (by kernel_rfl) ?_
            repeat (go_big_quiet_step ((go_at_call 30; exact aft_call (HC.out _))))
            refine wpQuiet_nil ?_
            rintro ⟨wq, hbq⟩
            go_wp2
            go_ret
            exact ⟨ret_bool HB.out.symm, hb.trans (hbq.mono hsz)⟩
          · have HB := Lib.hid (show sizeBad (lastFull t k) (t k) = false by rw [hlast]; simp [sizeBad, hv]; omega)
            go_wp2
            refine wp_region_aft (by kernel_rfl) (by kernel_rfl) ?_
            repeat (go_big_quiet_step ((go_at_call 30; exact aft_call (HC.out _))))
            refine wpQuiet_nil ?_
            rintro ⟨wq, hbq⟩
            go_wp2
            go_roundw
            case rel => exact ⟨k + 1, by omega, by go_num, hb.trans (hbq.mono hsz), fun i hi => by
              by_cases h : i = k
              · subst h; exact HB.out
              · exact HN.out i (by omega)⟩
            case measure => simp [intOf]; omega
      · replace hv : (t k).valid = false := by simpa using hv
        rw [hv] at HC
        have HB := Lib.hid (listB_of_bad hlt (show sizeBad (lastFull t k) (t k) = true by simp [sizeBad, hv]))
        go_wp2
        refine wp_region_aft (by kernel_rfl) (by kernel_rfl) ?_
        repeat (go_big_quiet_step ((go_at_call 30; exact aft_call (HC.out _))))
        refine wpQuiet_nil ?_
        rintro ⟨wq, hbq⟩
        go_wp2
        go_ret
        exact ⟨ret_bool HB.out.symm, hb.trans (hbq.mono hsz)⟩
    · obtain rfl : k = n := by omega
      go_wp2
      go_ret
      exact ⟨ret_bool (by rw [listB_of_none HN.out]; simp <;> omega), hb⟩
end Go.Proofs.Ytckagcbjcpfjpaa
