/- Next of the program: its closures. -/
import Derived.Test.YtpognhnmkjpipaaDoorW15
namespace Go.Proofs.YtpognhnmkjpipaaDoor
open Go.RowKit
theorem i64_andNot_nat (a b : Nat) (ha : a < 9223372036854775808) (hb : b < 9223372036854775808) : bits .andNot .i64 (a : Int) (b : Int) = ((a ^^^ (a &&& b) : Nat) : Int) := by
  have hx : a ^^^ (a &&& b) < 2 ^ 63 := Nat.xor_lt_two_pow (by omega) (Nat.lt_of_le_of_lt Nat.and_le_left (by omega))
  show IntKind.i64.wrap ((BitVec.ofInt 64 (a : Int) &&& ~~~ BitVec.ofInt 64 (b : Int)).toNat : Int) = _
  have e : ∀ x y : BitVec 64, x &&& ~~~ y = x ^^^ (x &&& y) := fun x y => by
    apply BitVec.eq_of_getLsbD_eq
    intro i hi
    simp [hi]
    cases x[i] <;> cases y[i] <;> rfl
  rw [e, BitVec.toNat_xor, BitVec.toNat_and, ofInt_i64 a ha, ofInt_i64 b hb, IntKind.wrap_i64]
  omega
/-- how many of the streets remain, if a valve is shut -/
def partsN (c s : Nat) : Nat := max (sizeN (c &&& s)) (sizeN (c ^^^ (c &&& s)))
def bestV (c : Nat) (f : Nat → Nat) : Nat → Nat × Nat
  | 0 => (0, 11)
  | k + 1 => if partsN c (f k) < (bestV c f k).2 then (k, partsN c (f k)) else bestV c f k
set_option maxHeartbeats 400000 in
theorem size_any (x : Nat) (hx : x < 1024) (w : World) :
    Calls Tryd.prog 38 #[.int .i64 x] w fun e w' => e = .returned (.int .i64 (sizeN x : Nat)) ∧ w' = w := by
  go_enter Tryd.func38, Tryd.ntmps38
  go_wp2_with fail
  refine (ones_any x hx _).mono ?_
  rintro e w' ⟨rfl, rfl⟩
  go_wp2
  go_ret
  exact ⟨rfl, rfl⟩
set_option maxHeartbeats 400000 in
theorem badV_any (g n ca : Nat) (oa : Option Addr) (x y : Value) (z : Value) (k : Int) (w : World) (hn : n ≤ 10) (hz : Box g #[.slice oa n ca, x, y, z] 25 w) :
    Calls Tryd.prog 35 #[.int .i64 k, .pointer (some ⟨g, 0, none⟩)] w fun e w' => e = .returned (.bool (badV n k)) ∧ Below w.heap.size w w' := by
  have c0 := hz.cell 0 (v := .slice oa n ca) rfl
  have c1 := hz.lt
  have H := Lib.hid (top_wrap hn)
  clear hz
  go_enter Tryd.func35, Tryd.ntmps35
  go_wp2_with fail
  rw [H.out]
  refine (within_any _ _ _ _).mono ?_
  rintro e w' ⟨rfl, rfl⟩
  go_wp2
  go_ret
  exact ⟨rfl, Below.refl _ _⟩
set_option maxHeartbeats 1000000 in
theorem indexInts_any (oa : Option Addr) (n cap : Nat) (t : Nat → Int) (w : World) (hn : n ≤ 1000000) (hT : IntsAt w oa n t) {g n9 ca : Nat} {oa9 : Option Addr} {x y z : Value} (hn9 : n9 ≤ 10) (hz : Box g #[.slice oa9 n9 ca, x, y, z] 25 w) :
    Calls Tryd.prog 50 #[.slice oa n cap, .func (.func 35) #[] #[.pointer (some ⟨g, 0, none⟩)]] w fun e w' => ∃ r : Int, e = .returned (.int .i64 r) ∧ (0 ≤ r ↔ anyB n (fun i => badV n9 (t i)) = true) ∧ Below w.heap.size w w' := by
  have HT := Lib.hid hT
  have HZ := Lib.hid hz
  clear hT hz
  go_enter Tryd.func50, Tryd.ntmps50
  go_wp2
  go_loopw [5, 8] (fun v5 v8 wr => ∃ k : Nat, k ≤ n ∧ v8 = .int .i64 k ∧ Below w.heap.size w wr ∧ ∀ i, i < k → (badV n9 (t i)) = false) (fun _ i _ => n - (intOf i).toNat)
  case atStart => exact ⟨0, Nat.zero_le _, rfl, Below.refl _ _, fun i hi => by omega⟩
  case round =>
    obtain ⟨k, hk, rfl, hb0, hno⟩ := hrel
    have HNO := Lib.hid hno
    clear hno
    by_cases hlt : k < n
    · obtain ⟨b, off, rfl, hlt0, c0⟩ := (HT.out.mono hb0) k hlt
      
      by_cases hbad : (badV n9 (t k)) = true
      · have HB := Lib.hid hbad
        go_wp2_with (go_at_call 35; refine (badV_any g n9 ca oa9 x y z _ _ hn9 (HZ.out.below hb0)).mono ?_; rintro e w1 ⟨rfl, hb1⟩)
        go_ret
        exact ⟨k, rfl, ⟨fun _ => anyB_iff.2 ⟨k, hlt, HB.out⟩, fun _ => by omega⟩, hb0.trans (hb1.mono hb0.size)⟩
      · replace hbad : (badV n9 (t k)) = false := by simpa using hbad
        have HB := Lib.hid hbad
        go_wp2_with (go_at_call 35; refine (badV_any g n9 ca oa9 x y z _ _ hn9 (HZ.out.below hb0)).mono ?_; rintro e w1 ⟨rfl, hb1⟩)
        go_roundw
        case rel => exact ⟨k + 1, by omega, by go_num, hb0.trans (hb1.mono hb0.size), fun i hi => by
          by_cases h : i = k
          · subst h; exact HB.out
          · exact HNO.out i (by omega)⟩
        case measure => simp [intOf]; omega
    · go_wp2
      go_ret
      exact ⟨-1, rfl, ⟨fun h => by omega, fun h => by
        obtain ⟨i, hi, hp⟩ := anyB_iff.1 h
        rw [HNO.out i (by omega)] at hp
        simp at hp⟩, hb0⟩
set_option maxHeartbeats 1000000 in
theorem containsInts_any (oa : Option Addr) (n cap : Nat) (t : Nat → Int) (w : World) (hn : n ≤ 1000000) (hT : IntsAt w oa n t) {g n9 ca : Nat} {oa9 : Option Addr} {x y z : Value} (hn9 : n9 ≤ 10) (hz : Box g #[.slice oa9 n9 ca, x, y, z] 25 w) :
    Calls Tryd.prog 37 #[.slice oa n cap, .func (.func 35) #[] #[.pointer (some ⟨g, 0, none⟩)]] w fun e w' => e = .returned (.bool (anyB n fun i => badV n9 (t i))) ∧ Below w.heap.size w w' := by
  have HT := Lib.hid hT
  have HZ := Lib.hid hz
  clear hT hz
  go_enter Tryd.func37, Tryd.ntmps37
  go_wp2_with fail
  refine (indexInts_any oa n cap t _ hn HT.out hn9 HZ.out).mono ?_
  rintro e w1 ⟨r, rfl, hr, hb⟩
  have HR := Lib.hid hr
  clear hr
  by_cases h0 : 0 ≤ r
  · go_wp2
    go_ret
    exact ⟨ret_bool (by rw [HR.out.1 h0]), hb⟩
  · go_wp2
    go_ret
    exact ⟨ret_bool (by
      have : ¬ anyB n (fun i => badV n9 (t i)) = true := fun h => by have := HR.out.2 h; omega
      simp only [Bool.not_eq_true] at this
      rw [this]; simp; omega), hb⟩
end Go.Proofs.YtpognhnmkjpipaaDoor
