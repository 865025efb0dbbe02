/- isHouse returns House.valid; the taps and rules lie in memory. -/
import Derived.Test.YtckagcbjcpfjpaaW2
namespace Go.Proofs.Ytckagcbjcpfjpaa
open Go.RowKit

set_option maxHeartbeats 400000 in
theorem indexRules_any (oa : Option Addr) (n cap : Nat) (t : Nat → Rule) (o2 : Option Addr) (n2 c2 hb : Nat) (w : World) (hn : n ≤ 1000000) (hT : RulesAt w oa n t) (h12 : 1 ≤ n2) (hn2 : n2 ≤ 10) (hblk : hb < w.heap.size) (hc : w.cell? ⟨hb, 2, none⟩ = some (.slice o2 n2 c2)) :
    Calls Try.prog 60 #[.slice oa n cap, .func (.func 49) #[] #[.pointer (some ⟨hb, 0, none⟩)]] w (IdxPost w.heap.size w n fun i => ruleBad n2 (t i).taps (t i).most) := by
  have HT := Lib.hid hT
  clear hT
  go_enter Try.func60, Try.ntmps60
  go_wp2
  go_loopw [5, 8] (fun v5 v8 wr => ∃ k : Nat, k ≤ n ∧ v8 = .int .i64 k ∧ Below w.heap.size w wr ∧ ∀ i, i < k → (ruleBad n2 (t i).taps (t i).most) = false) (fun _ i _ => n - (intOf i).toNat)
  case atStart => exact ⟨0, Nat.zero_le _, rfl, Below.refl _ _, fun i hi => by omega⟩
  case round =>
    obtain ⟨k, hk, rfl, hb0, hno⟩ := hrel
    have HN := Lib.hid hno
    clear hno
    by_cases hlt : k < n
    · obtain ⟨b, off, rfl, hlt0, h0, h1⟩ := (HT.out.mono hb0) k hlt
      have hblk1 : hb < wr.heap.size := Nat.lt_of_lt_of_le hblk hb0.size
      have hc1 := (hb0.cell (p := ⟨hb, 2, none⟩) hblk).trans hc
      by_cases hbad : (ruleBad n2 (t k).taps (t k).most) = true
      · have HB := Lib.hid hbad
        go_wp2_with (go_at_call 49; refine (isHouse2_any _ _ o2 n2 c2 hb _ h12 hn2 hblk1 hc1).mono ?_; rintro e w1 ⟨rfl, hb1⟩)
        go_ret
        exact ⟨k, rfl, ⟨fun _ => anyB_iff.2 ⟨k, hlt, HB.out⟩, fun _ => by omega⟩, hb0.trans (hb1.mono hb0.size)⟩
      · replace hbad : (ruleBad n2 (t k).taps (t k).most) = false := by simpa using hbad
        have HB := Lib.hid hbad
        go_wp2_with (go_at_call 49; refine (isHouse2_any _ _ o2 n2 c2 hb _ h12 hn2 hblk1 hc1).mono ?_; rintro e w1 ⟨rfl, hb1⟩)
        go_roundw
        case rel => exact ⟨k + 1, by omega, by go_num, hb0.trans (hb1.mono hb0.size), fun i hi => by
          by_cases h : i = k
          · subst h; exact HB.out
          · exact HN.out i (by omega)⟩
        case measure => simp [intOf]; omega
    · go_wp2
      go_ret
      exact ⟨-1, rfl, ⟨fun h => by omega, fun h => by
        obtain ⟨i, hi, hp⟩ := anyB_iff.1 h
        rw [HN.out i (by omega)] at hp
        simp at hp⟩, hb0⟩

set_option maxHeartbeats 400000 in
theorem containsRules_any (oa : Option Addr) (n cap : Nat) (t : Nat → Rule) (o2 : Option Addr) (n2 c2 hb : Nat) (w : World) (hn : n ≤ 1000000) (hT : RulesAt w oa n t) (h12 : 1 ≤ n2) (hn2 : n2 ≤ 10) (hblk : hb < w.heap.size) (hc : w.cell? ⟨hb, 2, none⟩ = some (.slice o2 n2 c2)) :
    Calls Try.prog 52 #[.slice oa n cap, .func (.func 49) #[] #[.pointer (some ⟨hb, 0, none⟩)]] w fun e w' => e = .returned (.bool (anyB n fun i => ruleBad n2 (t i).taps (t i).most)) ∧ Below w.heap.size w w' := by
  have HT := Lib.hid hT
  clear hT
  go_enter Try.func52, Try.ntmps52
  go_wp2_with fail
  refine (indexRules_any oa n cap t o2 n2 c2 hb _ hn HT.out h12 hn2 hblk hc).mono ?_
  rintro e w1 ⟨r, rfl, hr, hb⟩
  have HR := Lib.hid hr
  clear hr
  by_cases h0 : 0 ≤ r
  · go_wp2
    go_ret
    exact ⟨ret_bool (by rw [HR.out.1 h0]), hb⟩
  · go_wp2
    go_ret
    exact ⟨ret_bool (by
      have : ¬ anyB n (fun i => ruleBad n2 (t i).taps (t i).most) = true := fun h => by have := HR.out.2 h; omega
      simp only [Bool.not_eq_true] at this
      rw [this]; simp; omega), hb⟩
end Go.Proofs.Ytckagcbjcpfjpaa
