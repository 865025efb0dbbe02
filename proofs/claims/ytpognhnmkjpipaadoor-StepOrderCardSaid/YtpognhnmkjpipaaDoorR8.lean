/- The document's side: Suspects, Sound and Leak. -/
import Derived.Test.YtpognhnmkjpipaaDoorR7
namespace Go.Proofs.YtpognhnmkjpipaaDoor
open Go.RowKit
def docErr (t : Tst) : Int := if t.valid then (if fitsB t then 0 else 6) else 1
def sumB (p : Nat → Bool) : Nat → Nat
  | 0 => 0
  | k + 1 => sumB p k + (if p k then 2 ^ k else 0)
theorem sumB_lt (p : Nat → Bool) : ∀ k, sumB p k < 2 ^ k
  | 0 => by simp [sumB]
  | k + 1 => by
    have := sumB_lt p k
    unfold sumB
    rw [Nat.pow_succ]
    split <;> omega
def docCan (t : Tst) : Nat := if docErr t = 0 then sumB (fun i => (leakO t i).isSome) t.n else 0
def docSurely (t : Tst) : Nat := if docErr t = 0 then sumB (fun i => !withoutB t i) t.n else 0
def docSound (t : Tst) : Bool := if docErr t = 0 then t.noneB else false
def docLeakErr (t : Tst) (k : Int) : Int := if t.valid then (if withinB k 0 ((t.n : Int) - 1) then (if fitsB t then (if (leakO t k.toNat).isSome then 0 else 4) else 6) else 2) else 1
def docLeak (t : Tst) (k : Int) : Spn := if docLeakErr t k = 0 then spOf (leakO t k.toNat) else ⟨0, 0⟩
theorem derr_no {t : Tst} (h : t.valid = false) : docErr t = 1 := by unfold docErr; rw [h]; rfl
theorem derr_six {t : Tst} (h : t.valid = true) (hg : fitsB t = false) : docErr t = 6 := by unfold docErr; rw [h, hg]; rfl
theorem derr_zero {t : Tst} (h : t.valid = true) (hg : fitsB t = true) : docErr t = 0 := by unfold docErr; rw [h, hg]; rfl
set_option maxRecDepth 100000 in
set_option maxHeartbeats 8000000 in
theorem docSound_any (t : Tst) (oa : Option Addr) (ca : Nat) (ob : Option Addr) (cb : Nat) (w : World) (hn : t.n ≤ 1000000) (hm : t.m ≤ 1000000) (hU : SpnsAt w oa t.n t.u) (hS : StpsAt w ob t.m t.s) :
    Calls Tryd.prog 15 #[t.val oa ca ob cb] w fun e w' => e = .returned (.tuple #[.bool (docSound t), .int .i64 (docErr t)]) ∧ Below w.heap.size w w' := by
  have HU := Lib.hid hU
  have HS := Lib.hid hS
  clear hU hS
  go_enter Tryd.func15, Tryd.ntmps15
  go_wp2_with fail
  have hI0 : WI t oa ca ob cb w (w.alloc (.cells #[.slice oa t.n ca, .int .i64 t.leaks, .int .i64 t.least, .slice ob t.m cb] 25)) := ⟨below_alloc1 _ _, Box.new _ 25 w rfl⟩
  obtain ⟨W, hW⟩ : ∃ X, X = w.alloc (.cells #[.slice oa t.n ca, .int .i64 t.leaks, .int .i64 t.least, .slice ob t.m cb] 25) := ⟨_, rfl⟩
  rw [← hW] at hI0 ⊢
  clear hW
  refine (refTest_any t oa ca ob cb _ hn hm (HU.out.mono hI0.low) (HS.out.mono hI0.low)).mono ?_
  rintro e w1 ⟨rfl, hb1⟩
  have I1 := Lib.hid (hI0.on hb1)
  clear hI0 hb1
  cases hv : t.valid
  · have E := Lib.hid (derr_no hv)
    clear hv
    go_wp2_with fail
    go_ret2
    exact ⟨by unfold docSound; rw [E.out]; rfl, I1.out.low⟩
  · skip
    have HK := Lib.hid (Tst.ok hv)
    obtain ⟨c0, c1, c2, c3, c4⟩ := TB.cells I1.out.hT
    go_wp2_with fail
    refine (fits_any t HK.out oa ca ob cb _ (HU.out.mono I1.out.low) (HS.out.mono I1.out.low)).mono ?_
    rintro e w2 ⟨rfl, hb2⟩
    have I2 := Lib.hid (I1.out.on hb2)
    clear hb2 c0 c1 c2 c3 c4
    obtain ⟨c0, c1, c2, c3, c4⟩ := TB.cells I2.out.hT
    cases hf : fitsB t
    · have E := Lib.hid (derr_six hv hf)
      clear hv hf
      go_wp2_with fail
      go_ret2
      exact ⟨by unfold docSound; rw [E.out]; rfl, I2.out.low⟩
    · have E := Lib.hid (derr_zero hv hf)
      clear hv hf
      go_wp2_with fail
      refine (none_any t HK.out oa ca ob cb _ (HU.out.mono I2.out.low) (HS.out.mono I2.out.low)).mono ?_
      rintro e w3 ⟨rfl, hb3⟩
      have I3 := Lib.hid (I2.out.on hb3)
      clear hb3
      go_wp2_with fail
      go_ret2
      exact ⟨by unfold docSound; rw [E.out]; rfl, I3.out.low⟩
set_option maxRecDepth 100000 in
set_option maxHeartbeats 8000000 in
theorem docSuspects_any (t : Tst) (oa : Option Addr) (ca : Nat) (ob : Option Addr) (cb : Nat) (w : World) (hn : t.n ≤ 1000000) (hm : t.m ≤ 1000000) (hU : SpnsAt w oa t.n t.u) (hS : StpsAt w ob t.m t.s) :
    Calls Tryd.prog 13 #[t.val oa ca ob cb] w fun e w' => e = .returned (.tuple #[.int .i64 (docCan t : Nat), .int .i64 (docSurely t : Nat), .int .i64 (docErr t)]) ∧ Below w.heap.size w w' := by
  have HU := Lib.hid hU
  have HS := Lib.hid hS
  clear hU hS
  go_enter Tryd.func13, Tryd.ntmps13
  go_wp2_with fail
  have hI0 : WI t oa ca ob cb w (w.alloc (.cells #[.slice oa t.n ca, .int .i64 t.leaks, .int .i64 t.least, .slice ob t.m cb] 25)) := ⟨below_alloc1 _ _, Box.new _ 25 w rfl⟩
  obtain ⟨W, hW⟩ : ∃ X, X = w.alloc (.cells #[.slice oa t.n ca, .int .i64 t.leaks, .int .i64 t.least, .slice ob t.m cb] 25) := ⟨_, rfl⟩
  rw [← hW] at hI0 ⊢
  clear hW
  refine (refTest_any t oa ca ob cb _ hn hm (HU.out.mono hI0.low) (HS.out.mono hI0.low)).mono ?_
  rintro e w1 ⟨rfl, hb1⟩
  have I1 := Lib.hid (hI0.on hb1)
  clear hI0 hb1
  cases hv : t.valid
  · have E := Lib.hid (derr_no hv)
    clear hv
    go_wp2_with fail
    go_ret3
    exact ⟨by unfold docCan docSurely; rw [E.out]; rfl, I1.out.low⟩
  · skip
    have HK := Lib.hid (Tst.ok hv)
    obtain ⟨c0, c1, c2, c3, c4⟩ := TB.cells I1.out.hT
    go_wp2_with fail
    refine (fits_any t HK.out oa ca ob cb _ (HU.out.mono I1.out.low) (HS.out.mono I1.out.low)).mono ?_
    rintro e w2 ⟨rfl, hb2⟩
    have I2 := Lib.hid (I1.out.on hb2)
    clear hb2 c0 c1 c2 c3 c4
    obtain ⟨c0, c1, c2, c3, c4⟩ := TB.cells I2.out.hT
    cases hf : fitsB t
    · have E := Lib.hid (derr_six hv hf)
      clear hv hf
      go_wp2_with fail
      go_ret3
      exact ⟨by unfold docCan docSurely; rw [E.out]; rfl, I2.out.low⟩
    · have E := Lib.hid (derr_zero hv hf)
      have hn2 := HK.out.n2
      clear hv hf c0 c1 c2 c3 c4
      go_wp2_with fail
      go_loopw [5, 6, 7] (fun v5 v6 v7 wr => ∃ k : Nat, k ≤ t.n ∧ v7 = .int .i64 k ∧ v5 = .int .i64 (sumB (fun i => (leakO t i).isSome) k : Nat) ∧ v6 = .int .i64 (sumB (fun i => !withoutB t i) k : Nat) ∧ WI t oa ca ob cb w wr) (fun _ _ i _ => t.n - (intOf i).toNat)
      case atStart => exact ⟨0, Nat.zero_le _, rfl, rfl, rfl, I2.out⟩
      case round =>
        obtain ⟨k, hk, rfl, rfl, rfl, hI3⟩ := hrel
        have HI3 := Lib.hid hI3
        obtain ⟨c0, c1, c2, c3, c4⟩ := TB.cells hI3.hT
        have hA := sumB_lt (fun i => (leakO t i).isSome) k
        have hB := sumB_lt (fun i => !withoutB t i) k
        have hp := pow_ten (n := k) (by omega)
        have EA := Lib.hid (show sumB (fun i => (leakO t i).isSome) (k + 1) = sumB (fun i => (leakO t i).isSome) k + (if (leakO t k).isSome then 2 ^ k else 0) from rfl)
        have EB := Lib.hid (show sumB (fun i => !withoutB t i) (k + 1) = sumB (fun i => !withoutB t i) k + (if !withoutB t k then 2 ^ k else 0) from rfl)
        clear hI3
        by_cases hlt : k < t.n
        · have hd : decide (k < t.n) = true := by simpa using hlt
          obtain ⟨a, ha⟩ : ∃ a, a = sumB (fun i => (leakO t i).isSome) k := ⟨_, rfl⟩
          obtain ⟨b, hb⟩ : ∃ b, b = sumB (fun i => !withoutB t i) k := ⟨_, rfl⟩
          obtain ⟨M, hM⟩ : ∃ M, M = 2 ^ k := ⟨_, rfl⟩
          have HP := Lib.hid (fun W => power_any k W (by omega))
          rw [← hM] at hp hA hB EA EB HP
          rw [← ha] at hA EA ⊢
          rw [← hb] at hB EB ⊢
          clear ha hb hM
          go_wp2_with fail
          refine (leakRef_any t HK.out oa ca ob cb k (by omega) _ (HU.out.mono HI3.out.low) (HS.out.mono HI3.out.low)).mono ?_
          rintro e w5 ⟨rfl, hb5⟩
          have I5 := Lib.hid ((HI3.out.on hb5).on (below_alloc1 w5 (.cells #[.int .i64 (spOf (leakO t k)).lo, .int .i64 (spOf (leakO t k)).hi] 37)))
          clear hb5 c0 c1 c2 c3 c4
          cases ho : (leakO t k).isSome
          · have EA1 := Lib.hid (show sumB (fun i => (leakO t i).isSome) (k + 1) = a by rw [EA.out, ho]; rfl)
            clear ho
            go_upto_region 12 with fail
            obtain ⟨c0, c1, c2, c3, c4⟩ := TB.cells I5.out.hT
            go_wp2_with fail
            refine (without_any t HK.out oa ca ob cb k _ (HU.out.mono I5.out.low) (HS.out.mono I5.out.low)).mono ?_
            rintro e w6 ⟨rfl, hb6⟩
            have I6 := Lib.hid (I5.out.on hb6)
            clear hb6 c0 c1 c2 c3 c4
            cases hw : withoutB t k
            · have EB1 := Lib.hid (show sumB (fun i => !withoutB t i) (k + 1) = b + M by rw [EB.out, hw]; rfl)
              clear hw
              go_wp2_with fail
              refine (HP.out _).mono ?_
              rintro e w9 ⟨rfl, rfl⟩
              go_wp2_with fail
              go_roundw
              case rel => exact ⟨k + 1, by omega, by go_num, by rw [EA1.out] <;> rfl, by rw [EB1.out]; rfl, I6.out⟩
              case measure => simp [intOf]; omega
            · have EB1 := Lib.hid (show sumB (fun i => !withoutB t i) (k + 1) = b by rw [EB.out, hw]; rfl)
              clear hw
              go_wp2_with fail
              go_roundw
              case rel => exact ⟨k + 1, by omega, by go_num, by rw [EA1.out] <;> rfl, by rw [EB1.out], I6.out⟩
              case measure => simp [intOf]; omega
          · have EA1 := Lib.hid (show sumB (fun i => (leakO t i).isSome) (k + 1) = a + M by rw [EA.out, ho]; rfl)
            clear ho
            go_wp2_with fail
            refine (HP.out _).mono ?_
            rintro e w9 ⟨rfl, rfl⟩
            go_upto_region 12 with fail
            obtain ⟨c0, c1, c2, c3, c4⟩ := TB.cells I5.out.hT
            go_wp2_with fail
            refine (without_any t HK.out oa ca ob cb k _ (HU.out.mono I5.out.low) (HS.out.mono I5.out.low)).mono ?_
            rintro e w6 ⟨rfl, hb6⟩
            have I6 := Lib.hid (I5.out.on hb6)
            clear hb6 c0 c1 c2 c3 c4
            cases hw : withoutB t k
            · have EB1 := Lib.hid (show sumB (fun i => !withoutB t i) (k + 1) = b + M by rw [EB.out, hw]; rfl)
              clear hw
              go_wp2_with fail
              refine (HP.out _).mono ?_
              rintro e w9 ⟨rfl, rfl⟩
              go_wp2_with fail
              go_roundw
              case rel => exact ⟨k + 1, by omega, by go_num, by rw [EA1.out] <;> rfl, by rw [EB1.out]; rfl, I6.out⟩
              case measure => simp [intOf]; omega
            · have EB1 := Lib.hid (show sumB (fun i => !withoutB t i) (k + 1) = b by rw [EB.out, hw]; rfl)
              clear hw
              go_wp2_with fail
              go_roundw
              case rel => exact ⟨k + 1, by omega, by go_num, by rw [EA1.out] <;> rfl, by rw [EB1.out], I6.out⟩
              case measure => simp [intOf]; omega
        · obtain rfl : k = t.n := by omega
          have hd : decide (t.n < t.n) = false := by simp
          go_wp2_with fail
          go_ret3
          exact ⟨by unfold docCan docSurely; rw [E.out]; rfl, HI3.out.low⟩
end Go.Proofs.YtpognhnmkjpipaaDoor
