/- Tests as Lean data; whether one of several spans, steps, or sets is bad; isTest says just if the test is valid. -/
import Derived.Test.YtmeeknmjhlfnaaaDoorW2
namespace Go.Proofs.YtmeeknmjhlfnaaaDoor
open Go.RowKit
/-- a step: which streets are shut, and what flows -/
structure Stp where
  shut : Int
  flow : Spn
abbrev Stp.val (s : Stp) : Value := .agg #[.int .i64 s.shut, .int .i64 s.flow.lo, .int .i64 s.flow.hi]
def StpsAt (w : World) (oa : Option Addr) (n : Nat) (t : Nat → Stp) : Prop :=
  ∀ i, i < n → ∃ b off, oa = some ⟨b, off, none⟩ ∧ b < w.heap.size ∧ w.cell? ⟨b, off + i * 3, none⟩ = some (.int .i64 (t i).shut) ∧ w.cell? ⟨b, off + i * 3 + 1, none⟩ = some (.int .i64 (t i).flow.lo) ∧ w.cell? ⟨b, off + i * 3 + 1 + 1, none⟩ = some (.int .i64 (t i).flow.hi)
theorem StpsAt.mono {w w' : World} {oa : Option Addr} {n : Nat} {t : Nat → Stp} (h : StpsAt w oa n t) (hb : Below w.heap.size w w') : StpsAt w' oa n t := fun i hi => by
  obtain ⟨b, off, ha, hlt, h0, h1, h2⟩ := h i hi
  exact ⟨b, off, ha, Nat.lt_of_lt_of_le hlt hb.size, (hb.cell (p := ⟨b, off + i * 3, none⟩) hlt).trans h0, (hb.cell (p := ⟨b, off + i * 3 + 1, none⟩) hlt).trans h1, (hb.cell (p := ⟨b, off + i * 3 + 1 + 1, none⟩) hlt).trans h2⟩
/-- a test -/
structure Tst where
  n : Nat
  u : Nat → Spn
  leaks : Int
  least : Int
  m : Nat
  s : Nat → Stp
abbrev Tst.val (t : Tst) (oa : Option Addr) (ca : Nat) (ob : Option Addr) (cb : Nat) : Value := .agg #[.slice oa t.n ca, .int .i64 t.leaks, .int .i64 t.least, .slice ob t.m cb]
/-- the greatest set of n streets -/
def top (n : Nat) : Int := ((2 ^ n : Nat) : Int) - 1
def badU (s : Spn) : Bool := !litB s
def badS (a : Int) (s : Stp) : Bool := !withinB s.shut 0 a || !litB s.flow
def badV (n : Nat) (k : Int) : Bool := !withinB k 0 (top n)
set_option maxHeartbeats 400000 in
theorem badU_any (s : Spn) (w : World) :
    Calls Tryd.prog 36 #[s.val] w fun e w' => e = .returned (.bool (badU s)) ∧ Below w.heap.size w w' := by
  go_enter Tryd.func36, Tryd.ntmps36
  go_wp2_with fail
  refine (isSpan_any s _).mono ?_
  rintro e w1 ⟨rfl, hb⟩
  go_wp2
  go_ret
  exact ⟨rfl, (below_alloc1 w _).trans (hb.mono (by simp))⟩
set_option maxHeartbeats 1000000 in
theorem badS_any (a : Int) (s : Stp) (xb : Nat) (w : World) (hblk : xb < w.heap.size) (hc : w.cell? ⟨xb, 0, none⟩ = some (.int .i64 a)) :
    Calls Tryd.prog 34 #[s.val, .pointer (some ⟨xb, 0, none⟩)] w fun e w' => e = .returned (.bool (badS a s)) ∧ Below w.heap.size w w' := by
  go_enter Tryd.func34, Tryd.ntmps34
  by_cases hw : withinB s.shut 0 a = true
  · have e : badS a s = !litB s.flow := by simp [badS, hw]
    have E := Lib.hid e
    have HW := Lib.hid hw
    clear e hw
    go_wp2_with fail
    refine (within_any _ _ _ _).mono ?_
    rintro e w1 ⟨rfl, rfl⟩
    rw [HW.out]
    go_wp2_with fail
    refine (isSpan_any s.flow _).mono ?_
    rintro e w2 ⟨rfl, hb⟩
    go_wp2
    go_ret
    exact ⟨ret_bool (by rw [E.out]), (below_alloc1 w _).trans (hb.mono (by simp))⟩
  · have e : badS a s = true := by simp [badS, hw]
    have E := Lib.hid e
    have HW := Lib.hid (show withinB s.shut 0 a = false by simpa using hw)
    clear e hw
    go_wp2_with fail
    refine (within_any _ _ _ _).mono ?_
    rintro e w1 ⟨rfl, rfl⟩
    rw [HW.out]
    go_wp2
    go_ret
    exact ⟨ret_bool (by rw [E.out]), below_alloc1 w _⟩

set_option maxHeartbeats 1000000 in
theorem indexSpans_any (oa : Option Addr) (n cap : Nat) (t : Nat → Spn) (w : World) (hn : n ≤ 1000000) (hT : SpnsAt w oa n t)  :
    Calls Tryd.prog 43 #[.slice oa n cap, .func (.func 36) #[] #[]] w fun e w' => ∃ r : Int, e = .returned (.int .i64 r) ∧ (0 ≤ r ↔ anyB n (fun i => badU (t i)) = true) ∧ Below w.heap.size w w' := by
  have HT := Lib.hid hT
  clear hT
  go_enter Tryd.func43, Tryd.ntmps43
  go_wp2
  go_loopw [5, 8] (fun v5 v8 wr => ∃ k : Nat, k ≤ n ∧ v8 = .int .i64 k ∧ Below w.heap.size w wr ∧ ∀ i, i < k → (badU (t i)) = false) (fun _ i _ => n - (intOf i).toNat)
  case atStart => exact ⟨0, Nat.zero_le _, rfl, Below.refl _ _, fun i hi => by omega⟩
  case round =>
    obtain ⟨k, hk, rfl, hb0, hno⟩ := hrel
    have HNO := Lib.hid hno
    clear hno
    by_cases hlt : k < n
    · obtain ⟨b, off, rfl, hlt0, c0, c1⟩ := (HT.out.mono hb0) k hlt
      
      by_cases hbad : (badU (t k)) = true
      · have HB := Lib.hid hbad
        go_wp2_with (go_at_call 36; refine (badU_any _ _).mono ?_; rintro e w1 ⟨rfl, hb1⟩)
        go_ret
        exact ⟨k, rfl, ⟨fun _ => anyB_iff.2 ⟨k, hlt, HB.out⟩, fun _ => by omega⟩, hb0.trans (hb1.mono hb0.size)⟩
      · replace hbad : (badU (t k)) = false := by simpa using hbad
        have HB := Lib.hid hbad
        go_wp2_with (go_at_call 36; refine (badU_any _ _).mono ?_; rintro e w1 ⟨rfl, hb1⟩)
        go_roundw
        case rel => exact ⟨k + 1, by omega, by go_num, hb0.trans (hb1.mono hb0.size), fun i hi => by
          by_cases h : i = k
          · subst h; exact HB.out
          · exact HNO.out i (by omega)⟩
        case measure => simp [intOf]; omega
    · go_wp2
      go_ret
      exact ⟨-1, rfl, ⟨fun h => by omega, fun h => by
        obtain ⟨i, hi, hp⟩ := anyB_iff.1 h
        rw [HNO.out i (by omega)] at hp
        simp at hp⟩, hb0⟩
set_option maxHeartbeats 1000000 in
theorem containsSpans_any (oa : Option Addr) (n cap : Nat) (t : Nat → Spn) (w : World) (hn : n ≤ 1000000) (hT : SpnsAt w oa n t)  :
    Calls Tryd.prog 37 #[.slice oa n cap, .func (.func 36) #[] #[]] w fun e w' => e = .returned (.bool (anyB n fun i => badU (t i))) ∧ Below w.heap.size w w' := by
  have HT := Lib.hid hT
  clear hT
  go_enter Tryd.func37, Tryd.ntmps37
  go_wp2_with fail
  refine (indexSpans_any oa n cap t _ hn HT.out ).mono ?_
  rintro e w1 ⟨r, rfl, hr, hb⟩
  have HR := Lib.hid hr
  clear hr
  by_cases h0 : 0 ≤ r
  · go_wp2
    go_ret
    exact ⟨ret_bool (by rw [HR.out.1 h0]), hb⟩
  · go_wp2
    go_ret
    exact ⟨ret_bool (by
      have : ¬ anyB n (fun i => badU (t i)) = true := fun h => by have := HR.out.2 h; omega
      simp only [Bool.not_eq_true] at this
      rw [this]; simp; omega), hb⟩

set_option maxHeartbeats 1000000 in
theorem indexSteps_any (oa : Option Addr) (n cap : Nat) (t : Nat → Stp) (w : World) (hn : n ≤ 1000000) (hT : StpsAt w oa n t) (a : Int) (xb : Nat) (hblk : xb < w.heap.size) (hc : w.cell? ⟨xb, 0, none⟩ = some (.int .i64 a)) :
    Calls Tryd.prog 44 #[.slice oa n cap, .func (.func 34) #[] #[.pointer (some ⟨xb, 0, none⟩)]] w fun e w' => ∃ r : Int, e = .returned (.int .i64 r) ∧ (0 ≤ r ↔ anyB n (fun i => badS a (t i)) = true) ∧ Below w.heap.size w w' := by
  have HT := Lib.hid hT
  clear hT
  go_enter Tryd.func44, Tryd.ntmps44
  go_wp2
  go_loopw [5, 8] (fun v5 v8 wr => ∃ k : Nat, k ≤ n ∧ v8 = .int .i64 k ∧ Below w.heap.size w wr ∧ ∀ i, i < k → (badS a (t i)) = false) (fun _ i _ => n - (intOf i).toNat)
  case atStart => exact ⟨0, Nat.zero_le _, rfl, Below.refl _ _, fun i hi => by omega⟩
  case round =>
    obtain ⟨k, hk, rfl, hb0, hno⟩ := hrel
    have HNO := Lib.hid hno
    clear hno
    by_cases hlt : k < n
    · obtain ⟨b, off, rfl, hlt0, c0, c1, c2⟩ := (HT.out.mono hb0) k hlt
      have hblk1 : xb < wr.heap.size := Nat.lt_of_lt_of_le hblk hb0.size
      have hc1 := (hb0.cell (p := ⟨xb, 0, none⟩) hblk).trans hc
      by_cases hbad : (badS a (t k)) = true
      · have HB := Lib.hid hbad
        go_wp2_with (go_at_call 34; refine (badS_any a _ xb _ hblk1 hc1).mono ?_; rintro e w1 ⟨rfl, hb1⟩)
        go_ret
        exact ⟨k, rfl, ⟨fun _ => anyB_iff.2 ⟨k, hlt, HB.out⟩, fun _ => by omega⟩, hb0.trans (hb1.mono hb0.size)⟩
      · replace hbad : (badS a (t k)) = false := by simpa using hbad
        have HB := Lib.hid hbad
        go_wp2_with (go_at_call 34; refine (badS_any a _ xb _ hblk1 hc1).mono ?_; rintro e w1 ⟨rfl, hb1⟩)
        go_roundw
        case rel => exact ⟨k + 1, by omega, by go_num, hb0.trans (hb1.mono hb0.size), fun i hi => by
          by_cases h : i = k
          · subst h; exact HB.out
          · exact HNO.out i (by omega)⟩
        case measure => simp [intOf]; omega
    · go_wp2
      go_ret
      exact ⟨-1, rfl, ⟨fun h => by omega, fun h => by
        obtain ⟨i, hi, hp⟩ := anyB_iff.1 h
        rw [HNO.out i (by omega)] at hp
        simp at hp⟩, hb0⟩
set_option maxHeartbeats 1000000 in
theorem containsSteps_any (oa : Option Addr) (n cap : Nat) (t : Nat → Stp) (w : World) (hn : n ≤ 1000000) (hT : StpsAt w oa n t) (a : Int) (xb : Nat) (hblk : xb < w.heap.size) (hc : w.cell? ⟨xb, 0, none⟩ = some (.int .i64 a)) :
    Calls Tryd.prog 38 #[.slice oa n cap, .func (.func 34) #[] #[.pointer (some ⟨xb, 0, none⟩)]] w fun e w' => e = .returned (.bool (anyB n fun i => badS a (t i))) ∧ Below w.heap.size w w' := by
  have HT := Lib.hid hT
  clear hT
  go_enter Tryd.func38, Tryd.ntmps38
  go_wp2_with fail
  refine (indexSteps_any oa n cap t _ hn HT.out a xb hblk hc).mono ?_
  rintro e w1 ⟨r, rfl, hr, hb⟩
  have HR := Lib.hid hr
  clear hr
  by_cases h0 : 0 ≤ r
  · go_wp2
    go_ret
    exact ⟨ret_bool (by rw [HR.out.1 h0]), hb⟩
  · go_wp2
    go_ret
    exact ⟨ret_bool (by
      have : ¬ anyB n (fun i => badS a (t i)) = true := fun h => by have := HR.out.2 h; omega
      simp only [Bool.not_eq_true] at this
      rw [this]; simp; omega), hb⟩
end Go.Proofs.YtmeeknmjhlfnaaaDoor
