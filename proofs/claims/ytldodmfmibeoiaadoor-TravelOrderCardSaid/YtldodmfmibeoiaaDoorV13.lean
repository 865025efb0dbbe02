/- Travel: OnesCount; the members of a set; before. -/
import Derived.Test.YtldodmfmibeoiaaDoorV12
namespace Go.Proofs.YtldodmfmibeoiaaDoor
open Go.RowKit
theorem oc_int {x : Nat} (hx : x < 16384) : oc7 (oc6 (oc5 (oc4 (oc3 (oc2 (oc1 (x : Nat))))))) = (sizeN x : Nat) := of_decide_eq_true (oc_eq hx)
theorem ones64_any (x : Nat) (hx : x < 16384) (w : World) :
    Calls Tryd.prog 59 #[.int .u64 x] w fun e w' => e = .returned (.int .i64 (sizeN x)) ∧ w' = w := by
  go_enter Tryd.func59, Tryd.ntmps59
  go_upto_region 2 with fail
  obtain ⟨y1, hy1⟩ : ∃ y : Int, y = IntKind.u64.wrap (bits BinOp.and IntKind.u64 ((x : Int) / 2) 6148914691236517205 + bits BinOp.and IntKind.u64 (x : Int) 6148914691236517205) := ⟨_, rfl⟩
  rw [← hy1]
  have H1 := Lib.hid (show y1 = oc1 (x : Int) from hy1)
  clear hy1
  go_upto_region 3 with fail
  obtain ⟨y2, hy2⟩ : ∃ y : Int, y = IntKind.u64.wrap (bits BinOp.and IntKind.u64 (y1 / 4) 3689348814741910323 + bits BinOp.and IntKind.u64 y1 3689348814741910323) := ⟨_, rfl⟩
  rw [← hy2]
  have H2 := Lib.hid (show y2 = oc2 y1 from hy2)
  clear hy2
  go_upto_region 4 with fail
  obtain ⟨y3, hy3⟩ : ∃ y : Int, y = bits BinOp.and IntKind.u64 (IntKind.u64.wrap (y2 / 16 + y2)) 1085102592571150095 := ⟨_, rfl⟩
  rw [← hy3]
  have H3 := Lib.hid (show y3 = oc3 y2 from hy3)
  clear hy3
  go_upto_region 5 with fail
  obtain ⟨y4, hy4⟩ : ∃ y : Int, y = IntKind.u64.wrap (y3 + y3 / 256) := ⟨_, rfl⟩
  rw [← hy4]
  have H4 := Lib.hid (show y4 = oc4 y3 from hy4)
  clear hy4
  go_upto_region 6 with fail
  obtain ⟨y5, hy5⟩ : ∃ y : Int, y = IntKind.u64.wrap (y4 + y4 / 65536) := ⟨_, rfl⟩
  rw [← hy5]
  have H5 := Lib.hid (show y5 = oc5 y4 from hy5)
  clear hy5
  go_upto_region 7 with fail
  obtain ⟨y6, hy6⟩ : ∃ y : Int, y = IntKind.u64.wrap (y5 + y5 / 4294967296) := ⟨_, rfl⟩
  rw [← hy6]
  have H6 := Lib.hid (show y6 = oc6 y5 from hy6)
  clear hy6
  go_wp2
  go_ret
  refine ⟨congrArg (fun z => Ending.returned (.int .i64 z)) ?_, rfl⟩
  have h := oc_int hx
  rw [← H1.out, ← H2.out, ← H3.out, ← H4.out, ← H5.out, ← H6.out] at h
  exact h
theorem ones_any (x : Nat) (hx : x < 16384) (w : World) :
    Calls Tryd.prog 45 #[.int .u64 x] w fun e w' => e = .returned (.int .i64 (sizeN x)) ∧ w' = w := by
  go_enter Tryd.func45, Tryd.ntmps45
  go_wp2_with fail
  refine (ones64_any x hx _).mono ?_
  rintro e w' ⟨rfl, rfl⟩
  go_wp2
  go_ret
  exact ⟨rfl, rfl⟩
theorem size_step {x : Nat} (hx : x < 16384) (h0 : x ≠ 0) : sizeN x = sizeN (x &&& (x - 1)) + 1 := by
  have := sz_eq hx
  unfold szB at this
  simpa [h0] using this
theorem low_eq {x : Nat} (hx : x < 16384) (h0 : x ≠ 0) : bits BinOp.and .i64 (x : Int) (-(x : Int)) = ((2 ^ Lib.ctz 64 x : Nat) : Int) := by
  have := lo_eq hx
  unfold lowB at this
  simpa [h0] using this
theorem mem2_len : ∀ (x : Nat), x < 16384 → (mem2 x).length = sizeN x := by
  intro x
  induction x using Nat.strongRecOn with
  | _ x ih =>
    intro hx
    by_cases h0 : x = 0
    · subst h0; rw [mem2_zero]; rfl
    · have h1 : x &&& (x - 1) ≤ x - 1 := Nat.and_le_right
      rw [mem2_step h0, List.length_cons, ih _ (by omega) (by omega), size_step hx h0]
theorem hasB_bit (x i : Nat) : hasB x i = x.testBit i := by
  unfold hasB
  rw [Nat.testBit_eq_decide_div_mod_eq]
theorem onesN_le (x : Nat) : ∀ k, onesN x k ≤ k
  | 0 => Nat.le_refl _
  | k + 1 => by
    have := onesN_le x k
    unfold onesN
    split <;> omega
theorem onesN_stop {x n : Nat} (hx : x < 2 ^ n) : ∀ d, onesN x (n + d) = onesN x n
  | 0 => rfl
  | d + 1 => by
    show onesN x (n + d) + (if hasB x (n + d) then 1 else 0) = _
    have h : x / 2 ^ (n + d) = 0 := Nat.div_eq_of_lt (Nat.lt_of_lt_of_le hx (Nat.pow_le_pow_right (by omega) (by omega)))
    rw [onesN_stop hx d]
    unfold hasB
    rw [h]
    simp
theorem size_le {x n : Nat} (hn : n ≤ 14) (hx : x < 2 ^ n) : sizeN x ≤ n := by
  have h := onesN_stop hx (14 - n)
  rw [show n + (14 - n) = 14 by omega] at h
  unfold sizeN
  rw [h]
  exact onesN_le x n
theorem xor_zero {a b : Nat} (h : a ^^^ b = 0) : a = b := by
  apply Nat.eq_of_testBit_eq
  intro i
  have h9 : (a ^^^ b).testBit i = false := by rw [h]; simp
  rw [Nat.testBit_xor] at h9
  cases ha : a.testBit i <;> cases hb : b.testBit i <;> rw [ha, hb] at h9 <;> first | rfl | cases h9
theorem and_pow_zero {a c : Nat} (h : a.testBit c = false) : a &&& 2 ^ c = 0 := by
  apply Nat.eq_of_testBit_eq
  intro i
  rw [Nat.testBit_and, Nat.testBit_two_pow]
  by_cases h9 : c = i
  · subst h9; simp [h]
  · simp [h9]
theorem and_pow_ne {a c : Nat} (h : a.testBit c = true) : a &&& 2 ^ c ≠ 0 := fun h9 => by
  have h8 : (a &&& 2 ^ c).testBit c = false := by rw [h9]; simp
  rw [Nat.testBit_and, Nat.testBit_two_pow, h] at h8
  simp at h8
/-- does a set come before another one -/
def beforeB (a b : Nat) : Bool := decide (a ≠ b) && a.testBit (Lib.ctz 64 (a ^^^ b))
theorem i64_xor_nat (a b : Nat) (ha : a < 16384) (hb : b < 16384) : bits .xor .i64 (a : Int) (b : Int) = ((a ^^^ b : Nat) : Int) := by
  have hx : a ^^^ b < 2 ^ 14 := Nat.xor_lt_two_pow (by omega) (by omega)
  show IntKind.i64.wrap ((BitVec.ofInt 64 (a : Int) ^^^ BitVec.ofInt 64 (b : Int)).toNat : Int) = _
  rw [BitVec.toNat_xor, ofInt_i64 a (by omega), ofInt_i64 b (by omega), IntKind.wrap_i64]
  omega
set_option maxHeartbeats 1000000 in
theorem before_any (a b : Nat) (w : World) (ha : a < 16384) (hb : b < 16384) :
    Calls Tryd.prog 46 #[.int .i64 a, .int .i64 b] w fun e w' => e = .returned (.bool (beforeB a b)) ∧ w' = w := by
  have hx := i64_xor_nat a b ha hb
  have hx14 : a ^^^ b < 2 ^ 14 := Nat.xor_lt_two_pow (by omega) (by omega)
  by_cases h0 : a = b
  · subst h0
    have e0 : a ^^^ a = 0 := Nat.xor_self a
    rw [e0] at hx hx14
    have HB := Lib.hid (show beforeB a a = false by simp [beforeB])
    have HX := Lib.hid hx
    clear hx hx14 e0
    go_enter Tryd.func46, Tryd.ntmps46
    go_upto_region 2 with fail
    rw [HX.out]
    go_wp2
    go_ret
    exact ⟨ret_bool (by rw [HB.out]), rfl⟩
  · have hd0 : a ^^^ b ≠ 0 := fun h9 => h0 (xor_zero h9)
    obtain ⟨d, hd⟩ : ∃ d, d = a ^^^ b := ⟨_, rfl⟩
    have hl := low_eq (x := d) (by omega) (by omega)
    have HB := Lib.hid (show beforeB a b = a.testBit (Lib.ctz 64 d) by unfold beforeB; rw [decide_eq_true h0, hd]; rfl)
    rw [← hd] at hx hx14 hd0
    have hc : Lib.ctz 64 d < 14 := ctz_lt hd0 (by omega) hx14
    obtain ⟨c, hcc⟩ : ∃ c, c = Lib.ctz 64 d := ⟨_, rfl⟩
    rw [← hcc] at hl HB hc
    have hp : 2 ^ c ≤ 2 ^ 13 := Nat.pow_le_pow_right (by omega) (by omega)
    have hA := i64_and_nat a (2 ^ c) (by omega) (by omega)
    have HT := Lib.hid (show ((((a &&& 2 ^ c : Nat) : Int) != 0) = a.testBit c) by
      cases h9 : a.testBit c
      · rw [and_pow_zero h9]; rfl
      · have := and_pow_ne h9
        simp only [bne_iff_ne, ne_eq]
        omega)
    have HX := Lib.hid hx
    have HL := Lib.hid hl
    have HA := Lib.hid hA
    have hq : ((d : Int) != 0) = true := by simp; omega
    have hd2 : d < 16384 := hx14
    clear hx hl hA hcc hd hp hx14 hd0
    go_enter Tryd.func46, Tryd.ntmps46
    go_upto_region 2 with fail
    rw [HX.out]
    go_wp2
    go_ret
    exact ⟨ret_bool (by rw [HB.out, ← HT.out, ← HA.out, ← HL.out]), rfl⟩
/-- the members come up one after another -/
theorem mem2_sorted : ∀ (x : Nat), x < 16384 → (mem2 x).Pairwise (· < ·) := by
  intro x
  induction x using Nat.strongRecOn with
  | _ x ih =>
    intro hx
    by_cases h0 : x = 0
    · subst h0; rw [mem2_zero]; exact .nil
    · have h1 : x &&& (x - 1) ≤ x - 1 := Nat.and_le_right
      rw [mem2_step h0]
      refine .cons (fun j hj => ?_) (ih _ (by omega) (by omega))
      have hb := (mem2_iff (x &&& (x - 1)) (by omega)).1 hj
      obtain ⟨m, hm⟩ := ctz_dvd h0 (by omega)
      generalize Lib.ctz 64 x = c at hm ⊢
      have h2 : 0 < 2 ^ c := Nat.two_pow_pos c
      have e1 : x = 2 ^ (c + 1) * m + 2 ^ c := by rw [hm, Nat.pow_succ, Nat.mul_add, Nat.mul_one, Nat.mul_assoc]
      have e2 : x - 1 = 2 ^ (c + 1) * m + (2 ^ c - 1) := by omega
      have l1 : 2 ^ c < 2 ^ (c + 1) := by rw [Nat.pow_succ]; omega
      have b1 : x.testBit j = if j < c + 1 then (2 ^ c).testBit j else m.testBit (j - (c + 1)) := by rw [e1]; exact Nat.testBit_two_pow_mul_add m l1 j
      have b2 : (x - 1).testBit j = if j < c + 1 then (2 ^ c - 1).testBit j else m.testBit (j - (c + 1)) := by rw [e2]; exact Nat.testBit_two_pow_mul_add m (by omega) j
      rw [Nat.testBit_and, b1, b2] at hb
      by_cases h : j < c + 1
      · rw [if_pos h, if_pos h, Nat.testBit_two_pow, Nat.testBit_two_pow_sub_one] at hb
        simp at hb
        omega
      · omega
end Go.Proofs.YtldodmfmibeoiaaDoor
