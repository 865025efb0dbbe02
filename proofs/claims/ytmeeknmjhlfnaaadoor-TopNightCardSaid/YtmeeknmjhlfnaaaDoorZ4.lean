/- TopNight returns true. -/
import Derived.Test.YtmeeknmjhlfnaaaDoorZ3
namespace Go.Proofs.YtmeeknmjhlfnaaaDoor
open Go.RowKit
/-- the test with one leak at most -/
def Tst.one (t : Tst) : Tst := { t with leaks := 1 }
theorem one_valid {t : Tst} (h : t.valid = true) : t.one.valid = true := by
  simp only [Tst.valid, Bool.and_eq_true, Bool.not_eq_true'] at h ⊢
  obtain ⟨h2, h3⟩ := h
  refine ⟨?_, h3⟩
  rw [head_iff] at *
  exact ⟨h2.1, ⟨by show (0 : Int) ≤ 1; omega, by show (1 : Int) ≤ 2; omega⟩, h2.2.2⟩
/-- what is used in the streets that are not shut -/
def useS (t : Tst) (sh i : Nat) : Spn := ⟨sumN (fun c => if hasB sh c then 0 else (t.u c).lo) i, sumN (fun c => if hasB sh c then 0 else (t.u c).hi) i⟩
theorem useS_bd {t : Tst} (hk : t.Ok) (sh : Nat) : ∀ i, i ≤ t.n → 0 ≤ (useS t sh i).lo ∧ (useS t sh i).lo ≤ (useS t sh i).hi ∧ (useS t sh i).hi ≤ 1073741824 * (i : Int)
  | 0, _ => ⟨Int.le_refl _, Int.le_refl _, Int.le_refl _⟩
  | i + 1, h => by
    have ih := useS_bd hk sh i (by omega)
    have hu := hk.u i (by omega)
    simp only [litB, spanB, decide_eq_true_eq] at hu
    have e1 : (useS t sh (i + 1)).lo = (useS t sh i).lo + if hasB sh i then 0 else (t.u i).lo := rfl
    have e2 : (useS t sh (i + 1)).hi = (useS t sh i).hi + if hasB sh i then 0 else (t.u i).hi := rfl
    rw [e1, e2]
    split <;> omega
def nightF (t : Tst) (k : Nat) : Spn := ⟨(t.s k).flow.lo - (useS t (t.s k).shut.toNat t.n).hi, (t.s k).flow.hi - (useS t (t.s k).shut.toNat t.n).lo⟩
theorem rest_use (t : Tst) (k : Nat) : (t.rest k).flow = ⟨(t.s k).flow.lo - (useS t (t.s k).shut.toNat t.n).hi, (t.s k).flow.hi - (useS t (t.s k).shut.toNat t.n).lo⟩ := left_sums t.u (t.s k).flow (t.s k).shut.toNat t.n
/-- what TopNight keeps -/
structure NT (t : Tst) (oa : Option Addr) (ca : Nat) (ob : Option Addr) (cb g3 : Nat) (w W : World) : Prop where
  low : Below w.heap.size w W
  hT : Box g3 #[.slice oa t.n ca, .int .i64 1, .int .i64 t.least, .slice ob t.m cb] 25 W
  mem : Mem t.one oa ob W
theorem NT.on {t : Tst} {oa : Option Addr} {ca : Nat} {ob : Option Addr} {cb g3 : Nat} {w A B : World} (h : NT t oa ca ob cb g3 w A) (hb : Below A.heap.size A B) : NT t oa ca ob cb g3 w B :=
  ⟨h.low.trans (hb.mono h.low.size), h.hT.below hb, h.mem.on hb⟩
theorem NT.cells {t : Tst} {oa : Option Addr} {ca : Nat} {ob : Option Addr} {cb g3 : Nat} {w A : World} (h : NT t oa ca ob cb g3 w A) : A.cell? ⟨g3, 0, none⟩ = some (.slice oa t.n ca) ∧ A.cell? ⟨g3, 1, none⟩ = some (.int .i64 1) ∧ A.cell? ⟨g3, 2, none⟩ = some (.int .i64 t.least) ∧ A.cell? ⟨g3, 3, none⟩ = some (.slice ob t.m cb) ∧ g3 < A.heap.size :=
  ⟨h.hT.cell 0 rfl, h.hT.cell 1 rfl, h.hT.cell 2 rfl, h.hT.cell 3 rfl, h.hT.lt⟩
set_option maxRecDepth 100000 in
set_option maxHeartbeats 40000000 in
theorem topNight_any (t : Tst) (oa : Option Addr) (ca : Nat) (ob : Option Addr) (cb : Nat) (w : World) (hM : Mem t oa ob w) :
    Calls Tryd.prog 3 #[t.val oa ca ob cb] w fun e w' => e = .returned (.bool true) ∧ Below w.heap.size w w' := by
  have HM := Lib.hid hM
  clear hM
  go_enter Tryd.func3, Tryd.ntmps3
  go_upto_region 1 with fail
  have L1 := Lib.hid (below_alloc1 w (.cells #[.slice oa t.n ca, .int .i64 t.leaks, .int .i64 t.least, .slice ob t.m cb] 25))
  have z1 := Lib.hid (show TB t oa ca ob cb w.heap.size (w.alloc (.cells #[.slice oa t.n ca, .int .i64 t.leaks, .int .i64 t.least, .slice ob t.m cb] 25)) from Box.new _ 25 w rfl)
  obtain ⟨X1, hW⟩ : ∃ X, X = w.alloc (.cells #[.slice oa t.n ca, .int .i64 t.leaks, .int .i64 t.least, .slice ob t.m cb] 25) := ⟨_, rfl⟩
  rw [← hW] at L1 z1 ⊢
  clear hW
  obtain ⟨c0, c1, c2, c3, c4⟩ := TB.cells z1.out
  by_cases hn : 10 < t.n
  · have hd : decide (10 < t.n) = true := decide_eq_true hn
    have hd2 : decide ((10 : Int) < (t.n : Int)) = true := decide_eq_true (by omega)
    go_wp2_with fail
    refine (awake10_any _ (HM.out.on L1.out).T (HM.out.on L1.out).l).mono ?_
    rintro e X2 ⟨rfl, hb⟩
    have L2 := Lib.hid (L1.out.trans (hb.mono L1.out.size))
    clear hb
    go_wp2_with fail
    go_ret
    exact ⟨rfl, L2.out⟩
  have hd : decide (10 < t.n) = false := decide_eq_false hn
  have hd2 : decide ((10 : Int) < (t.n : Int)) = false := decide_eq_false (by omega)
  by_cases hm : 12 < t.m
  · have hd3 : decide (12 < t.m) = true := decide_eq_true hm
    have hd4 : decide ((12 : Int) < (t.m : Int)) = true := decide_eq_true (by omega)
    go_wp2_with fail
    refine (awake10_any _ (HM.out.on L1.out).T (HM.out.on L1.out).l).mono ?_
    rintro e X2 ⟨rfl, hb⟩
    have L2 := Lib.hid (L1.out.trans (hb.mono L1.out.size))
    clear hb
    go_wp2_with fail
    go_ret
    exact ⟨rfl, L2.out⟩
  have hd3 : decide (12 < t.m) = false := decide_eq_false hm
  have hd4 : decide ((12 : Int) < (t.m : Int)) = false := decide_eq_false (by omega)
  go_wp2_with fail
  refine (refTest_any t oa ca ob cb X1 (by omega) (by omega) (HM.out.on L1.out).u (HM.out.on L1.out).s).mono ?_
  rintro e Y1 ⟨rfl, hb⟩
  have L0 := L1
  clear L1
  have L1 := Lib.hid (L0.out.trans (hb.mono L0.out.size))
  have Z1 := Lib.hid (z1.out.below hb)
  clear hb L0 z1 c0 c1 c2 c3 c4 hd hd2 hd3 hd4
  cases hv : t.valid
  case false =>
    clear hv
    go_wp2_with fail
    refine (awake10_any _ (HM.out.on L1.out).T (HM.out.on L1.out).l).mono ?_
    rintro e X2 ⟨rfl, hb⟩
    have L2 := Lib.hid (L1.out.trans (hb.mono L1.out.size))
    clear hb
    go_wp2_with fail
    go_ret
    exact ⟨rfl, L2.out⟩
  case true =>
    have HV := Lib.hid (one_valid hv)
    have hok := Tst.ok hv
    have HOK := Lib.hid hok
    have hn1 := hok.n1
    clear hok hv
    obtain ⟨c0, c1, c2, c3, c4⟩ := TB.cells Z1.out
    go_upto_region 5 with fail
    have hI0 : NT t oa ca ob cb Y1.heap.size w (Y1.alloc (.cells #[.slice oa t.n ca, .int .i64 1, .int .i64 t.least, .slice ob t.m cb] 25)) := by
      have hb2 := below_alloc1 Y1 (.cells #[.slice oa t.n ca, .int .i64 1, .int .i64 t.least, .slice ob t.m cb] 25)
      have hl := L1.out.trans (hb2.mono L1.out.size)
      have hm9 := HM.out.on hl
      exact ⟨hl, Box.new _ 25 Y1 rfl, ⟨hm9.u, hm9.s, hm9.T, hm9.l⟩⟩
    have g3l : w.heap.size ≤ Y1.heap.size := L1.out.size
    obtain ⟨X2, hW⟩ : ∃ X, X = Y1.alloc (.cells #[.slice oa t.n ca, .int .i64 1, .int .i64 t.least, .slice ob t.m cb] 25) := ⟨_, rfl⟩
    obtain ⟨g3, hG⟩ : ∃ g, g = Y1.heap.size := ⟨_, rfl⟩
    rw [← hW, ← hG] at hI0
    rw [← hW]
    rw [← hG] at g3l ⊢
    clear hW hG L1 Z1 c0 c1 c2 c3 c4
    have I2 := Lib.hid hI0
    clear hI0
    obtain ⟨c0, c1, c2, c3, c4⟩ := NT.cells I2.out
    have hn9 : t.n ≤ 10 := by omega
    have hm9 : t.m ≤ 12 := by omega
    clear hn hm
    go_wp2_with fail
    refine (suspects_any t.one oa ca ob cb X2 (show t.n ≤ 1000000 by omega) (show t.m ≤ 1000000 by omega) I2.out.mem.u I2.out.mem.s I2.out.mem.T I2.out.mem.l).mono ?_
    rintro e X3 ⟨rfl, hb⟩
    have I3 := Lib.hid (I2.out.on hb)
    clear hb I2 c0 c1 c2 c3 c4
    obtain ⟨c0, c1, c2, c3, c4⟩ := NT.cells I3.out
    go_wp2_with fail
    refine (sound_any t.one oa ca ob cb X3 (show t.n ≤ 1000000 by omega) (show t.m ≤ 1000000 by omega) I3.out.mem.u I3.out.mem.s I3.out.mem.T I3.out.mem.l).mono ?_
    rintro e X4 ⟨rfl, hb⟩
    have I4 := Lib.hid (I3.out.on hb)
    clear hb I3 c0 c1 c2 c3 c4
    have hcn : t.one.canR < 1024 := Nat.lt_of_lt_of_le (own_sub t.one).2 (pow_ten hn9)
    rcases err_three t.one with he | he | he
    · rw [he]
      have HE := Lib.hid he
      clear he
      obtain ⟨cn, hcn9⟩ : ∃ c, c = t.one.canR := ⟨_, rfl⟩
      obtain ⟨so, hso9⟩ : ∃ c, c = t.one.soundR := ⟨_, rfl⟩
      rw [← hcn9, ← hso9]
      rw [← hcn9] at hcn
      have HCN := Lib.hid hcn9
      have HSO := Lib.hid hso9
      clear hcn9 hso9
      go_wp2_with fail
      go_loopw [9] (fun v9 wr => ∃ k : Nat, k ≤ t.m ∧ v9 = .int .i64 (k : Nat) ∧ NT t oa ca ob cb g3 w wr) (fun v9 _ => t.m - (intOf v9).toNat)
      case atStart => exact ⟨0, Nat.zero_le _, rfl, I4.out⟩
      case round =>
        obtain ⟨k, hk, rfl, hI⟩ := hrel
        have I5 := Lib.hid hI
        clear hI I4
        obtain ⟨c0, c1, c2, c3, c4⟩ := NT.cells I5.out
        by_cases hkm : k < t.m
        · have hd3 : decide (k < t.m) = true := decide_eq_true hkm
          have hd4 : decide ((k : Int) < (t.m : Int)) = true := decide_eq_true (by omega)
          obtain ⟨bs, os, rfl, ls, u0, u1, u2⟩ := I5.out.mem.s k hkm
          obtain ⟨sh, hsh⟩ : ∃ sh : Nat, (t.s k).shut = (sh : Nat) := ⟨(t.s k).shut.toNat, by have := HOK.out.s0 k hkm; omega⟩
          have hshn : (t.s k).shut.toNat = sh := by rw [hsh, Int.toNat_natCast]
          have hsl : sh < 2 ^ t.n := by have := HOK.out.s1 k hkm; rw [hshn] at this; exact this
          have h10 := pow_ten hn9
          have hsl9 : sh < 1024 := by omega
          have hb9 := HOK.out.f k hkm
          have hff : 0 ≤ (t.s k).flow.lo ∧ (t.s k).flow.lo ≤ (t.s k).flow.hi ∧ (t.s k).flow.hi ≤ 1073741824 := by simp only [litB, spanB, decide_eq_true_eq] at hb9; exact hb9
          have HFB := Lib.hid hb9
          have HLAW := Lib.hid (night_law HV.out (by show (1 : Int) ≤ 1; omega) HE.out (k := k) hkm)
          have HREST := Lib.hid (show (t.one.rest k).flow = nightF t k from rest_use t k)
          obtain ⟨f, hf⟩ : ∃ f, f = (t.s k).flow := ⟨_, rfl⟩
          have e1 : (t.one.s k).flow = f := hf.symm
          have e2 : (t.one.s k).shut = (sh : Nat) := hsh
          rw [e2] at u0
          rw [e1] at u1 u2
          rw [← hf] at HFB hff
          have HSHN := Lib.hid hshn
          have HF := Lib.hid hf
          clear hb9 hsh hshn e1 e2 hf h10 hsl
          obtain ⟨f0, f1, f2⟩ := hff
          have hk0 : (0 : Int) ≤ (k : Int) := by omega
          have hk1 : (k : Int) < (t.m : Int) := by omega
          have U0 := Lib.hid u0
          go_upto_region 13 with fail
          have I6 := Lib.hid (I5.out.on (below_alloc1 wr (.cells #[.int .i64 f.lo, .int .i64 f.hi, .int .i64 0, .int .i64 0, .int .i64 1, .int .i64 1] 38)))
          have zN : NB f (useS t sh 0) wr.heap.size (wr.alloc (.cells #[.int .i64 f.lo, .int .i64 f.hi, .int .i64 0, .int .i64 0, .int .i64 1, .int .i64 1] 38)) := Box.new _ 38 wr rfl
          have lN : w.heap.size ≤ wr.heap.size := I5.out.low.size
          have nN3 : wr.heap.size ≠ g3 := by have := I5.out.hT.lt; omega
          have HLS := Lib.hid (show bs < wr.heap.size ∧ wr.cell? ⟨bs, os + k * 3, none⟩ = some (.int .i64 (sh : Nat)) from ⟨ls, u0⟩)
          have hbx := below_alloc1 wr (.cells #[.int .i64 f.lo, .int .i64 f.hi, .int .i64 0, .int .i64 0, .int .i64 1, .int .i64 1] 38)
          have s0 : (wr.alloc (.cells #[.int .i64 f.lo, .int .i64 f.hi, .int .i64 0, .int .i64 0, .int .i64 1, .int .i64 1] 38)).cell? ⟨bs, os + k * 3, none⟩ = some (.int .i64 (sh : Nat)) := (hbx.cell (p := ⟨bs, os + k * 3, none⟩) ls).trans u0
          have s1 : bs < (wr.alloc (.cells #[.int .i64 f.lo, .int .i64 f.hi, .int .i64 0, .int .i64 0, .int .i64 1, .int .i64 1] 38)).heap.size := Nat.lt_of_lt_of_le ls hbx.size
          have nbs : bs ≠ wr.heap.size := by omega
          obtain ⟨X5, hW⟩ : ∃ X, X = wr.alloc (.cells #[.int .i64 f.lo, .int .i64 f.hi, .int .i64 0, .int .i64 0, .int .i64 1, .int .i64 1] 38) := ⟨_, rfl⟩
          obtain ⟨g9, hG⟩ : ∃ g, g = wr.heap.size := ⟨_, rfl⟩
          rw [← hW] at I6 zN s0 s1 ⊢
          rw [← hG] at zN lN nN3 nbs ⊢
          clear hW hG I5 c0 c1 c2 c3 c4 hd3 hd4 u0 u1 u2 U0 ls HLS hbx
          have ZN := Lib.hid zN
          have HS0 := Lib.hid s0
          have HS1 := Lib.hid s1
          clear zN s0 s1
          go_wp2_with fail
          go_loopw [11] (fun v11 wr => ∃ i : Nat, i ≤ t.n ∧ v11 = .int .i64 (i : Nat) ∧ NT t oa ca (some ⟨bs, os, none⟩) cb g3 w wr ∧ NB f (useS t sh i) g9 wr ∧ But g9 X5 wr) (fun v11 _ => t.n - (intOf v11).toNat)
          case atStart => exact ⟨0, Nat.zero_le _, rfl, I6.out, ZN.out, ⟨rfl, rfl, rfl, Nat.le_refl _, fun _ _ _ => rfl⟩⟩
          case round =>
            obtain ⟨i, hi, rfl, hI, hN, hBt⟩ := hrel
            have I7 := Lib.hid hI
            have Z7 := Lib.hid hN
            have B7 := Lib.hid hBt
            clear hI hN hBt I6 ZN
            obtain ⟨c0, c1, c2, c3, c4⟩ := NT.cells I7.out
            have s0 := (B7.out.cell (n := bs) (i := os + k * 3) HS1.out nbs).trans HS0.out
            have s1 := Nat.lt_of_lt_of_le HS1.out B7.out.size
            obtain ⟨q0, q1, q2⟩ := useS_bd HOK.out sh i hi
            by_cases hin : i < t.n
            · have hd3 : decide (i < t.n) = true := decide_eq_true hin
              have hd4 : decide ((i : Int) < (t.n : Int)) = true := decide_eq_true (by omega)
              go_wp2_with fail
              refine (has_b sh i _ (by omega) (by omega)).mono ?_
              rintro e X6 ⟨rfl, hb⟩
              have I8 := Lib.hid (I7.out.on hb)
              have Z8 := Lib.hid (Z7.out.below hb)
              have B8 := Lib.hid (B7.out.trans_below hb)
              clear hb I7 Z7 B7 c0 c1 c2 c3 c4 s0 s1 hd3 hd4
              have e1 : (useS t sh (i + 1)).lo = (useS t sh i).lo + if hasB sh i then 0 else (t.u i).lo := rfl
              have e2 : (useS t sh (i + 1)).hi = (useS t sh i).hi + if hasB sh i then 0 else (t.u i).hi := rfl
              cases hh : hasB sh i
              · rw [hh] at e1 e2
                simp only [Bool.false_eq_true, if_false] at e1 e2
                obtain ⟨bu, ou, rfl, lu, u0, u1⟩ := I8.out.mem.u i hin
                have hlu := HOK.out.u i hin
                simp only [litB, spanB, decide_eq_true_eq] at hlu
                obtain ⟨a0, a1, a2⟩ := hlu
                obtain ⟨ul, hul⟩ : ∃ x, x = (t.u i).lo := ⟨_, rfl⟩
                obtain ⟨uh, huh⟩ : ∃ x, x = (t.u i).hi := ⟨_, rfl⟩
                obtain ⟨ql, hql⟩ : ∃ x, x = (useS t sh i).lo := ⟨_, rfl⟩
                obtain ⟨qh, hqh⟩ : ∃ x, x = (useS t sh i).hi := ⟨_, rfl⟩
                have e3 : (t.one.u i).lo = ul := hul.symm
                have e4 : (t.one.u i).hi = uh := huh.symm
                rw [e3] at u0
                rw [e4] at u1
                rw [← hul, ← hql] at e1
                rw [← huh, ← hqh] at e2
                rw [← hul] at a0 a1
                rw [← huh] at a1 a2
                rw [← hql] at q0 q1
                rw [← hqh] at q1 q2
                have z8 : Box g9 #[.int .i64 f.lo, .int .i64 f.hi, .int .i64 ql, .int .i64 qh, .int .i64 1, .int .i64 1] 38 X6 := by rw [hql, hqh]; exact Z8.out
                have E1 := Lib.hid e1
                have E2 := Lib.hid e2
                have HHH := Lib.hid hh
                clear e1 e2 e3 e4 hh hul huh hql hqh
                have hi0 : (0 : Int) ≤ (i : Int) := by omega
                have hi1 : (i : Int) < (t.n : Int) := by omega
                have U0 := Lib.hid u0
                have U1 := Lib.hid u1
                clear u0 u1
                have Z9 := Lib.hid z8
                clear z8
                go_wp2_with fail
                have hP0 : ∀ A B : World, (NT t (some ⟨bu, ou, none⟩) ca (some ⟨bs, os, none⟩) cb g3 w A ∧ Box g9 #[.int .i64 f.lo, .int .i64 f.hi, .int .i64 ql, .int .i64 qh, .int .i64 1, .int .i64 1] 38 A ∧ Below X6.heap.size X6 A) → Below A.heap.size A B → (NT t (some ⟨bu, ou, none⟩) ca (some ⟨bs, os, none⟩) cb g3 w B ∧ Box g9 #[.int .i64 f.lo, .int .i64 f.hi, .int .i64 ql, .int .i64 qh, .int .i64 1, .int .i64 1] 38 B ∧ Below X6.heap.size X6 B) := fun A B h1 h2 => ⟨h1.1.on h2, h1.2.1.below h2, h1.2.2.trans (h2.mono h1.2.2.size)⟩
                have hP1 : ∀ A B : World, True → Below A.heap.size A B → True := fun _ _ _ _ => trivial
                have hC0 : NT t (some ⟨bu, ou, none⟩) ca (some ⟨bs, os, none⟩) cb g3 w X6.drew ∧ Box g9 #[.int .i64 f.lo, .int .i64 f.hi, .int .i64 ql, .int .i64 qh, .int .i64 1, .int .i64 1] 38 X6.drew ∧ Below X6.heap.size X6 X6.drew := ⟨I8.out.on (Below.refl _ _).drew, Z9.out.drew, (Below.refl _ _).drew⟩
                refine wp_region_phase 22 (fun A => NT t (some ⟨bu, ou, none⟩) ca (some ⟨bs, os, none⟩) cb g3 w A ∧ Box g9 #[.int .i64 f.lo, .int .i64 f.hi, .int .i64 ql, .int .i64 qh, .int .i64 1, .int .i64 1] 38 A ∧ Below X6.heap.size X6 A) (fun _ => True) (by kernel_rfl) ?_
                (refine wpAnyP_take0 (i := 0) hP0 hP1 hC0 (by decide) (by rfl) rfl (by kernel_rfl) rfl (by kernel_rfl) (by kernel_rfl) (by kernel_rfl) (fun _ _ _ _ h => h) (by rfl) ?_; apply Exists.intro; refine ⟨fun w1 h1 K hK => ?_, ?_⟩; · ( go_big_quiet_op; first | exact hK | fail))
                (refine wpAnyP_take0 (i := 1) hP0 hP1 hC0 (by decide) (by rfl) rfl (by kernel_rfl) rfl (by kernel_rfl) (by kernel_rfl) (by kernel_rfl) (fun _ _ _ _ h => h) (by rfl) ?_; apply Exists.intro; refine ⟨fun w1 h1 K hK => ?_, ?_⟩; · ( go_big_quiet_op; first | exact hK | fail))
                (refine wpAnyP_take0 (i := 2) hP0 hP1 hC0 (by decide) (by rfl) rfl (by kernel_rfl) rfl (by kernel_rfl) (by kernel_rfl) (by kernel_rfl) (fun _ _ _ _ h => h) (by rfl) ?_; apply Exists.intro; refine ⟨fun w1 h1 K hK => ?_, ?_⟩; · (have g0 : ∀ W : Aft w1, W.val.cell? ⟨g9, 2, none⟩ = some (.int .i64 ql) := fun W => (hP0 _ _ h1 W.below).2.1.cell 2 rfl; go_big_quiet_op; first | exact hK | fail))
                (refine wpAnyP_take0 (i := 3) hP0 hP1 hC0 (by decide) (by rfl) rfl (by kernel_rfl) rfl (by kernel_rfl) (by kernel_rfl) (by kernel_rfl) (fun _ _ _ _ h => h) (by rfl) ?_; apply Exists.intro; refine ⟨fun w1 h1 K hK => ?_, ?_⟩; · ( go_big_quiet_op; first | exact hK | fail))
                (refine wpAnyP_take0 (i := 4) hP0 hP1 hC0 (by decide) (by rfl) rfl (by kernel_rfl) rfl (by kernel_rfl) (by kernel_rfl) (by kernel_rfl) (fun _ _ _ _ h => h) (by rfl) ?_; apply Exists.intro; refine ⟨fun w1 h1 K hK => ?_, ?_⟩; · (have g0 : ∀ W : Aft w1, W.val.cell? ⟨g3, 0, none⟩ = some (.slice (some ⟨bu, ou, none⟩) t.n ca) := fun W => (hP0 _ _ h1 W.below).1.hT.cell 0 rfl; go_big_quiet_op; first | exact hK | fail))
                (refine wpAnyP_take0 (i := 5) hP0 hP1 hC0 (by decide) (by rfl) rfl (by kernel_rfl) rfl (by kernel_rfl) (by kernel_rfl) (by kernel_rfl) (fun _ _ _ _ h => h) (by rfl) ?_; apply Exists.intro; refine ⟨fun w1 h1 K hK => ?_, ?_⟩; · ( go_big_quiet_op; first | exact hK | fail))
                (refine wpAnyP_take0 (i := 6) hP0 hP1 hC0 (by decide) (by rfl) rfl (by kernel_rfl) rfl (by kernel_rfl) (by kernel_rfl) (by kernel_rfl) (fun _ _ _ _ h => h) (by rfl) ?_; apply Exists.intro; refine ⟨fun w1 h1 K hK => ?_, ?_⟩; · ( go_big_quiet_op; first | exact hK | fail))
                (refine wpAnyP_take0 (i := 7) hP0 hP1 hC0 (by decide) (by rfl) rfl (by kernel_rfl) rfl (by kernel_rfl) (by kernel_rfl) (by kernel_rfl) (fun _ _ _ _ h => h) (by rfl) ?_; apply Exists.intro; refine ⟨fun w1 h1 K hK => ?_, ?_⟩; · ( go_big_quiet_op; first | exact hK | fail))
                (refine wpAnyP_take0 (i := 8) hP0 hP1 hC0 (by decide) (by rfl) rfl (by kernel_rfl) rfl (by kernel_rfl) (by kernel_rfl) (by kernel_rfl) (fun _ _ _ _ h => h) (by rfl) ?_; apply Exists.intro; refine ⟨fun w1 h1 K hK => ?_, ?_⟩; · (have g0 : ∀ W : Aft w1, W.val.cell? ⟨bu, ou + i * 2, none⟩ = some (.int .i64 ul) := fun W => ((hP0 _ _ h1 W.below).2.2.cell (p := ⟨bu, ou + i * 2, none⟩) lu).trans U0.out; go_big_quiet_op; first | exact hK | fail))
                (refine wpAnyP_take0 (i := 9) hP0 hP1 hC0 (by decide) (by rfl) rfl (by kernel_rfl) rfl (by kernel_rfl) (by kernel_rfl) (by kernel_rfl) (fun _ _ _ _ h => h) (by rfl) ?_; apply Exists.intro; refine ⟨fun w1 h1 K hK => ?_, ?_⟩; · ( go_big_quiet_op; first | exact hK | fail))
                (refine wpAnyP_take0 (i := 10) hP0 hP1 hC0 (by decide) (by rfl) rfl (by kernel_rfl) rfl (by kernel_rfl) (by kernel_rfl) (by kernel_rfl) (fun _ _ _ _ h => h) (by rfl) ?_; apply Exists.intro; refine ⟨fun w1 h1 K hK => ?_, ?_⟩; · ( go_big_quiet_op; first | exact hK | fail))
                (refine wpAnyP_take0 (i := 11) hP0 hP1 hC0 (by decide) (by rfl) rfl (by kernel_rfl) rfl (by kernel_rfl) (by kernel_rfl) (by kernel_rfl) (fun _ _ _ _ h => h) (by rfl) ?_; apply Exists.intro; refine ⟨fun w1 h1 K hK => ?_, ?_⟩; · ( go_big_quiet_op; first | exact hK | fail))
                (refine wpAnyP_take0 (i := 12) hP0 hP1 hC0 (by decide) (by rfl) rfl (by kernel_rfl) rfl (by kernel_rfl) (by kernel_rfl) (by kernel_rfl) (fun _ _ _ _ h => h) (by rfl) ?_; apply Exists.intro; refine ⟨fun w1 h1 K hK => ?_, ?_⟩; · (have g0 : ∀ W : Aft w1, W.val.cell? ⟨g9, 3, none⟩ = some (.int .i64 qh) := fun W => (hP0 _ _ h1 W.below).2.1.cell 3 rfl; go_big_quiet_op; first | exact hK | fail))
                (refine wpAnyP_take0 (i := 13) hP0 hP1 hC0 (by decide) (by rfl) rfl (by kernel_rfl) rfl (by kernel_rfl) (by kernel_rfl) (by kernel_rfl) (fun _ _ _ _ h => h) (by rfl) ?_; apply Exists.intro; refine ⟨fun w1 h1 K hK => ?_, ?_⟩; · ( go_big_quiet_op; first | exact hK | fail))
                (refine wpAnyP_take0 (i := 14) hP0 hP1 hC0 (by decide) (by rfl) rfl (by kernel_rfl) rfl (by kernel_rfl) (by kernel_rfl) (by kernel_rfl) (fun _ _ _ _ h => h) (by rfl) ?_; apply Exists.intro; refine ⟨fun w1 h1 K hK => ?_, ?_⟩; · (have g0 : ∀ W : Aft w1, W.val.cell? ⟨g3, 0, none⟩ = some (.slice (some ⟨bu, ou, none⟩) t.n ca) := fun W => (hP0 _ _ h1 W.below).1.hT.cell 0 rfl; go_big_quiet_op; first | exact hK | fail))
                (refine wpAnyP_take0 (i := 15) hP0 hP1 hC0 (by decide) (by rfl) rfl (by kernel_rfl) rfl (by kernel_rfl) (by kernel_rfl) (by kernel_rfl) (fun _ _ _ _ h => h) (by rfl) ?_; apply Exists.intro; refine ⟨fun w1 h1 K hK => ?_, ?_⟩; · ( go_big_quiet_op; first | exact hK | fail))
                (refine wpAnyP_take0 (i := 16) hP0 hP1 hC0 (by decide) (by rfl) rfl (by kernel_rfl) rfl (by kernel_rfl) (by kernel_rfl) (by kernel_rfl) (fun _ _ _ _ h => h) (by rfl) ?_; apply Exists.intro; refine ⟨fun w1 h1 K hK => ?_, ?_⟩; · ( go_big_quiet_op; first | exact hK | fail))
                (refine wpAnyP_take0 (i := 17) hP0 hP1 hC0 (by decide) (by rfl) rfl (by kernel_rfl) rfl (by kernel_rfl) (by kernel_rfl) (by kernel_rfl) (fun _ _ _ _ h => h) (by rfl) ?_; apply Exists.intro; refine ⟨fun w1 h1 K hK => ?_, ?_⟩; · ( go_big_quiet_op; first | exact hK | fail))
                (refine wpAnyP_take0 (i := 18) hP0 hP1 hC0 (by decide) (by rfl) rfl (by kernel_rfl) rfl (by kernel_rfl) (by kernel_rfl) (by kernel_rfl) (fun _ _ _ _ h => h) (by rfl) ?_; apply Exists.intro; refine ⟨fun w1 h1 K hK => ?_, ?_⟩; · (have g0 : ∀ W : Aft w1, W.val.cell? ⟨bu, ou + i * 2 + 1, none⟩ = some (.int .i64 uh) := fun W => ((hP0 _ _ h1 W.below).2.2.cell (p := ⟨bu, ou + i * 2 + 1, none⟩) lu).trans U1.out; go_big_quiet_op; first | exact hK | fail))
                (refine wpAnyP_take0 (i := 19) hP0 hP1 hC0 (by decide) (by rfl) rfl (by kernel_rfl) rfl (by kernel_rfl) (by kernel_rfl) (by kernel_rfl) (fun _ _ _ _ h => h) (by rfl) ?_; apply Exists.intro; refine ⟨fun w1 h1 K hK => ?_, ?_⟩; · ( go_big_quiet_op; first | exact hK | fail))
                (refine wpAnyP_take0 (i := 20) hP0 hP1 hC0 (by decide) (by rfl) rfl (by kernel_rfl) rfl (by kernel_rfl) (by kernel_rfl) (by kernel_rfl) (fun _ _ _ _ h => h) (by rfl) ?_; apply Exists.intro; refine ⟨fun w1 h1 K hK => ?_, ?_⟩; · ( go_big_quiet_op; first | exact hK | fail))
                (refine wpAnyP_one (i := 21) (by kernel_rfl) rfl (by rfl) (fun wa hwa K hK => ?_))
                go_simp
                have hC1 := hP0 _ _ hC0 hwa
                refine hK _ _ hC1 ?_
                clear hK K hC0 hwa
                (refine wpAnyP_one (i := 22) (by kernel_rfl) rfl (by rfl) (fun wb hwb K hK => ?_))
                have hC2 := hP0 _ _ hC1 hwb
                refine wp_store_at hC2.2.1 rfl rfl rfl (by simp) (by kernel_rfl) (by simp [Value.oneCell']) (fun wf zf ho => ?_)
                dsimp only [Act.put]
                have hl9 := hC2.1.low.trans (ho.below lN)
                have hm8 := HM.out.on hl9
                have hNf : NT t (some ⟨bu, ou, none⟩) ca (some ⟨bs, os, none⟩) cb g3 w wf := ⟨hl9, ho.box hC2.1.hT (Ne.symm nN3), ⟨hm8.u, hm8.s, hm8.T, hm8.l⟩⟩
                have hBf : But g9 X5 wf := (B8.out.trans_below hC2.2.2).trans ⟨ho.os, ho.tape, ho.output, Nat.le_of_eq ho.size.symm, fun k9 _ hne => ho.block k9 hne⟩
                have zf2 : NB f (useS t sh (i + 1)) g9 wf := by
                  show Box g9 #[.int .i64 f.lo, .int .i64 f.hi, .int .i64 (useS t sh (i + 1)).lo, .int .i64 (useS t sh (i + 1)).hi, .int .i64 1, .int .i64 1] 38 wf
                  rw [E1.out, E2.out]; exact zf
                refine hK _ _ trivial ?_
                clear hK K
                refine wpAnyP_done (by kernel_rfl) (fun wz hwz => ?_) _
                have I9 := Lib.hid (hNf.on hwz)
                have Z10 := Lib.hid (zf2.below hwz)
                have B9 := Lib.hid (hBf.trans_below hwz)
                clear hNf zf2 hBf hl9 hm8 hC2 hC1 hP0 hP1 ho zf hwb hwz I8 Z8 Z9 B8
                go_wp2_with fail
                go_roundw
                case rel => exact ⟨i + 1, by omega, by go_num, I9.out, Z10.out, B9.out⟩
                case measure => simp [intOf]; omega
              · rw [hh] at e1 e2
                simp only [if_true] at e1 e2
                have z8 : NB f (useS t sh (i + 1)) g9 X6 := by
                  show Box g9 #[.int .i64 f.lo, .int .i64 f.hi, .int .i64 (useS t sh (i + 1)).lo, .int .i64 (useS t sh (i + 1)).hi, .int .i64 1, .int .i64 1] 38 X6
                  rw [e1, e2, Int.add_zero, Int.add_zero]; exact Z8.out
                have Z9 := Lib.hid z8
                clear z8 e1 e2 hh
                go_wp2_with fail
                go_roundw
                case rel => exact ⟨i + 1, by omega, by go_num, I8.out, Z9.out, B8.out⟩
                case measure => simp [intOf]; omega
            · have hin9 : i = t.n := by omega
              subst hin9
              have hd3 : decide (t.n < t.n) = false := by simp
              have hd4 : decide ((t.n : Int) < (t.n : Int)) = false := by simp
              obtain ⟨s, hs⟩ : ∃ s, s = useS t sh t.n := ⟨_, rfl⟩
              rw [← hs] at Z7 q0 q1 q2
              have HSS := Lib.hid hs
              clear hs
              obtain ⟨n0, n1, n2, n3, n4, n5, n6⟩ := NB.cells Z7.out
              by_cases hbig : 1073741824 < s.hi
              · have hd5 : decide (1073741824 < s.hi) = true := decide_eq_true hbig
                go_wp2_with fail
                go_roundw
                case rel => exact ⟨k + 1, by omega, by go_num, I7.out⟩
                case measure => simp [intOf]; omega
              · have hd5 : decide (1073741824 < s.hi) = false := decide_eq_false hbig
                have hsb : litB s = true := by simp only [litB, spanB, decide_eq_true_eq]; omega
                have HRS := HREST.out
                unfold nightF at HRS
                rw [HSHN.out, ← HF.out, ← HSS.out] at HRS
                have hR1 : (t.one.rest k).flow.lo = f.lo - s.hi := by rw [HRS]
                have hR2 : (t.one.rest k).flow.hi = f.hi - s.lo := by rw [HRS]
                obtain ⟨Z, hZ⟩ : ∃ Z, Z = nightS f s := ⟨_, rfl⟩
                have hZ1 : Z.lo = max 0 ((t.one.rest k).flow.lo) := by rw [hZ, hR1]; rfl
                have hZ2 : Z.hi = max 0 ((t.one.rest k).flow.hi) := by rw [hZ, hR2]; rfl
                have HZ1 := Lib.hid hZ1
                have HZ2 := Lib.hid hZ2
                have HZ := Lib.hid hZ
                clear HRS hR1 hR2 hZ hZ1 hZ2
                go_wp2_with fail
                have hbA := below_alloc1 wr (.cells #[.int .i64 0, .int .i64 1073741824, .int .i64 0, .int .i64 0, .int .i64 0, .int .i64 0, .int .i64 0, .int .i64 0, .int .i64 (-1)] 41)
                have hbB := hbA.trans ((below_alloc1 (wr.alloc (.cells #[.int .i64 0, .int .i64 1073741824, .int .i64 0, .int .i64 0, .int .i64 0, .int .i64 0, .int .i64 0, .int .i64 0, .int .i64 (-1)] 41)) (.cells #[.int .i64 f.lo, .int .i64 f.hi, .int .i64 s.lo, .int .i64 s.hi, .int .i64 1, .int .i64 1] 38)).mono hbA.size)
                have zZ : ZB ⟨0, 1073741824⟩ wr.heap.size ((wr.alloc (.cells #[.int .i64 0, .int .i64 1073741824, .int .i64 0, .int .i64 0, .int .i64 0, .int .i64 0, .int .i64 0, .int .i64 0, .int .i64 (-1)] 41)).alloc (.cells #[.int .i64 f.lo, .int .i64 f.hi, .int .i64 s.lo, .int .i64 s.hi, .int .i64 1, .int .i64 1] 38)) := (Box.new _ 41 wr rfl).old _
                have zM : NB f s (wr.heap.size + 1) ((wr.alloc (.cells #[.int .i64 0, .int .i64 1073741824, .int .i64 0, .int .i64 0, .int .i64 0, .int .i64 0, .int .i64 0, .int .i64 0, .int .i64 (-1)] 41)).alloc (.cells #[.int .i64 f.lo, .int .i64 f.hi, .int .i64 s.lo, .int .i64 s.hi, .int .i64 1, .int .i64 1] 38)) := Box.new _ 38 _ (by simp)
                refine (leaksZ_any ⟨0, 1073741824⟩ f s wr.heap.size 1 (wr.heap.size + 1) 1 _ (by decide) HFB.out hsb zZ zM).mono ?_
                rintro e X8 ⟨⟨ol, cl, rfl, hsp⟩, hb3⟩
                rw [← HZ.out] at hsp
                have hb4 := hbB.trans (hb3.mono hbB.size)
                have I8 := Lib.hid (I7.out.on hb4)
                have S0 := Lib.hid ((hb4.cell (p := ⟨bs, os + k * 3, none⟩) s1).trans s0)
                have S1 := Lib.hid (Nat.lt_of_lt_of_le s1 hb4.size)
                obtain ⟨bl, olf, rfl, lb, l0, l1⟩ := hsp 0 (by omega)
                rw [Nat.zero_mul, Nat.add_zero] at l0 l1
                have SL := Lib.hid (show bl < X8.heap.size ∧ X8.cell? ⟨bl, olf, none⟩ = some (.int .i64 Z.lo) ∧ X8.cell? ⟨bl, olf + 1, none⟩ = some (.int .i64 Z.hi) from ⟨lb, l0, l1⟩)
                clear hbA hbB zZ zM hb3 hb4 hsp lb l0 l1 I7 Z7 B7 n0 n1 n2 n3 n4 n5 n6 c0 c1 c2 c3 c4 s0 s1 hd3 hd4 hd5 hsb
                go_wp2_with fail
                go_loopw [15] (fun v15 wr => ∃ i : Nat, i ≤ t.n ∧ v15 = .int .i64 (i : Nat) ∧ NT t oa ca (some ⟨bs, os, none⟩) cb g3 w wr ∧ Below X8.heap.size X8 wr) (fun v15 _ => t.n - (intOf v15).toNat)
                case atStart => exact ⟨0, Nat.zero_le _, rfl, I8.out, Below.refl _ _⟩
                case round =>
                  obtain ⟨i, hi3, rfl, hI, hB⟩ := hrel
                  have I10 := Lib.hid hI
                  have HB := Lib.hid hB
                  clear hI hB I8
                  obtain ⟨c0, c1, c2, c3, c4⟩ := NT.cells I10.out
                  by_cases hin : i < t.n
                  · have hd3 : decide (i < t.n) = true := decide_eq_true hin
                    have hd4 : decide ((i : Int) < (t.n : Int)) = true := decide_eq_true (by omega)
                    obtain ⟨w1, w2, -⟩ := HLAW.out
                    have k1 := w1 i hin
                    have k2 := w2 i hin
                    have es : (t.one.s k).shut.toNat = sh := HSHN.out
                    rw [es] at k2
                    rw [← HCN.out] at k1
                    go_wp2_with fail
                    refine (leak_any t.one oa ca (some ⟨bs, os, none⟩) cb (i : Nat) wr (show t.n ≤ 1000000 by omega) (show t.m ≤ 1000000 by omega) I10.out.mem.u I10.out.mem.s I10.out.mem.T I10.out.mem.l).mono ?_
                    rintro e X9 ⟨rfl, hb⟩
                    obtain ⟨er, her⟩ : ∃ e, e = t.one.leakErr i := ⟨_, rfl⟩
                    obtain ⟨sp, hsp⟩ : ∃ e, e = t.one.leakR i := ⟨_, rfl⟩
                    rw [← her] at k1 k2 ⊢
                    rw [← hsp] at k2 ⊢
                    have K1 := Lib.hid k1
                    have K2 := Lib.hid k2
                    clear her hsp k1 k2 w1 w2 es
                    go_upto_region 27 with fail
                    have hbx := hb.trans ((below_alloc1 X9 (.cells #[.int .i64 sp.lo, .int .i64 sp.hi] 34)).mono hb.size)
                    have I11 := Lib.hid (I10.out.on hbx)
                    have HB2 := Lib.hid (HB.out.trans (hbx.mono HB.out.size))
                    have ZS := Lib.hid (Box.new (g := X9.heap.size) #[.int .i64 sp.lo, .int .i64 sp.hi] 34 X9 rfl)
                    obtain ⟨X10, hW⟩ : ∃ X, X = X9.alloc (.cells #[.int .i64 sp.lo, .int .i64 sp.hi] 34) := ⟨_, rfl⟩
                    obtain ⟨gs, hG⟩ : ∃ g, g = X9.heap.size := ⟨_, rfl⟩
                    rw [← hW] at I11 HB2 ZS ⊢
                    rw [← hG] at ZS ⊢
                    clear hW hG hbx hb I10 HB c0 c1 c2 c3 c4 hd3 hd4
                    have HHX := Lib.hid (fun W => has_b sh i W (by omega) (by omega))
                    by_cases he0 : er = 0
                    · have hc := K1.out.1 he0
                      have k2 := K2.out he0
                      subst he0
                      go_wp2_with fail
                      refine (has_b cn i _ (by omega) (by omega)).mono ?_
                      rintro e X11 ⟨rfl, hb⟩
                      rw [hc]
                      have I12 := Lib.hid (I11.out.on hb)
                      have HB3 := Lib.hid (HB2.out.trans (hb.mono HB2.out.size))
                      have ZS2 := Lib.hid (ZS.out.below hb)
                      clear hb I11 HB2 ZS hc
                      have m0 : ∀ W : Aft X11, W.val.cell? ⟨g3, 3, none⟩ = some (.slice (some ⟨bs, os, none⟩) t.m cb) := fun W => (I12.out.hT.below W.below).cell 3 rfl
                      have m1 : ∀ W : Aft X11, W.val.cell? ⟨bs, os + k * 3, none⟩ = some (.int .i64 (sh : Nat)) := fun W => ((HB3.out.trans (W.below.mono HB3.out.size)).cell (p := ⟨bs, os + k * 3, none⟩) S1.out).trans S0.out
                      have m2 : ∀ W : Aft X11, W.val.cell? ⟨gs, 0, none⟩ = some (.int .i64 sp.lo) := fun W => (ZS2.out.below W.below).cell 0 rfl
                      have m3 : ∀ W : Aft X11, W.val.cell? ⟨gs, 1, none⟩ = some (.int .i64 sp.hi) := fun W => (ZS2.out.below W.below).cell 1 rfl
                      have m4 : ∀ W : Aft X11, W.val.cell? ⟨bl, olf, none⟩ = some (.int .i64 Z.lo) := fun W => ((HB3.out.trans (W.below.mono HB3.out.size)).cell (p := ⟨bl, olf, none⟩) SL.out.1).trans SL.out.2.1
                      have m5 : ∀ W : Aft X11, W.val.cell? ⟨bl, olf + 1, none⟩ = some (.int .i64 Z.hi) := fun W => ((HB3.out.trans (W.below.mono HB3.out.size)).cell (p := ⟨bl, olf + 1, none⟩) SL.out.1).trans SL.out.2.2
                      cases hh : hasB sh i
                      · obtain ⟨r0, r1, r2, r3⟩ := k2 hh
                        rw [hh] at HHX
                        have d1 : decide (sp.lo < Z.lo) = false := decide_eq_false (by have := HZ1.out; omega)
                        have d2 : decide (Z.hi < sp.hi) = false := decide_eq_false (by have := HZ2.out; omega)
                        clear hh k2 r0 r1 r2 r3
                        go_upto_region 29 with fail
                        refine wp_region_aft (by kernel_rfl) (by kernel_rfl) ?_
                        repeat (go_big_quiet_step ((go_at_call 8; exact aft_call (HHX.out _))))
                        refine wpQuiet_nil ?_
                        intro WA
                        obtain ⟨wy, hwy⟩ : ∃ X, X = WA.val := ⟨_, rfl⟩
                        have hby := WA.below
                        rw [← hwy] at hby ⊢
                        clear hwy WA
                        have I13 := Lib.hid (I12.out.on hby)
                        have HB4 := Lib.hid (HB3.out.trans (hby.mono HB3.out.size))
                        clear hby
                        go_wp2_with fail
                        go_roundw
                        case rel => exact ⟨i + 1, by omega, by go_num, I13.out, HB4.out⟩
                        case measure => simp [intOf]; omega
                      · rw [hh] at HHX
                        clear hh k2
                        go_upto_region 29 with fail
                        refine wp_region_aft (by kernel_rfl) (by kernel_rfl) ?_
                        repeat (go_big_quiet_step ((go_at_call 8; exact aft_call (HHX.out _))))
                        refine wpQuiet_nil ?_
                        intro WA
                        obtain ⟨wy, hwy⟩ : ∃ X, X = WA.val := ⟨_, rfl⟩
                        have hby := WA.below
                        rw [← hwy] at hby ⊢
                        clear hwy WA
                        have I13 := Lib.hid (I12.out.on hby)
                        have HB4 := Lib.hid (HB3.out.trans (hby.mono HB3.out.size))
                        clear hby
                        go_wp2_with fail
                        go_roundw
                        case rel => exact ⟨i + 1, by omega, by go_num, I13.out, HB4.out⟩
                        case measure => simp [intOf]; omega
                    · have hc : hasB cn i = false := by
                        cases h9 : hasB cn i
                        · rfl
                        · exact absurd (K1.out.2 h9) he0
                      have he9 : (er == 0) = false := by simpa using he0
                      go_wp2_with fail
                      refine (has_b cn i _ (by omega) (by omega)).mono ?_
                      rintro e X11 ⟨rfl, hb⟩
                      rw [hc]
                      have I12 := Lib.hid (I11.out.on hb)
                      have HB3 := Lib.hid (HB2.out.trans (hb.mono HB2.out.size))
                      have ZS2 := Lib.hid (ZS.out.below hb)
                      clear hb I11 HB2 ZS hc K1 K2 he0
                      have m0 : ∀ W : Aft X11, W.val.cell? ⟨g3, 3, none⟩ = some (.slice (some ⟨bs, os, none⟩) t.m cb) := fun W => (I12.out.hT.below W.below).cell 3 rfl
                      have m1 : ∀ W : Aft X11, W.val.cell? ⟨bs, os + k * 3, none⟩ = some (.int .i64 (sh : Nat)) := fun W => ((HB3.out.trans (W.below.mono HB3.out.size)).cell (p := ⟨bs, os + k * 3, none⟩) S1.out).trans S0.out
                      have m2 : ∀ W : Aft X11, W.val.cell? ⟨gs, 0, none⟩ = some (.int .i64 sp.lo) := fun W => (ZS2.out.below W.below).cell 0 rfl
                      have m3 : ∀ W : Aft X11, W.val.cell? ⟨gs, 1, none⟩ = some (.int .i64 sp.hi) := fun W => (ZS2.out.below W.below).cell 1 rfl
                      have m4 : ∀ W : Aft X11, W.val.cell? ⟨bl, olf, none⟩ = some (.int .i64 Z.lo) := fun W => ((HB3.out.trans (W.below.mono HB3.out.size)).cell (p := ⟨bl, olf, none⟩) SL.out.1).trans SL.out.2.1
                      have m5 : ∀ W : Aft X11, W.val.cell? ⟨bl, olf + 1, none⟩ = some (.int .i64 Z.hi) := fun W => ((HB3.out.trans (W.below.mono HB3.out.size)).cell (p := ⟨bl, olf + 1, none⟩) SL.out.1).trans SL.out.2.2
                      go_upto_region 29 with fail
                      refine wp_region_aft (by kernel_rfl) (by kernel_rfl) ?_
                      repeat (go_big_quiet_step ((go_at_call 8; exact aft_call (HHX.out _))))
                      refine wpQuiet_nil ?_
                      intro WA
                      obtain ⟨wy, hwy⟩ : ∃ X, X = WA.val := ⟨_, rfl⟩
                      have hby := WA.below
                      rw [← hwy] at hby ⊢
                      clear hwy WA
                      have I13 := Lib.hid (I12.out.on hby)
                      have HB4 := Lib.hid (HB3.out.trans (hby.mono HB3.out.size))
                      clear hby
                      go_wp2_with fail
                      go_roundw
                      case rel => exact ⟨i + 1, by omega, by go_num, I13.out, HB4.out⟩
                      case measure => simp [intOf]; omega
                  · have hin9 : i = t.n := by omega
                    subst hin9
                    have hd3 : decide (t.n < t.n) = false := by simp
                    have hd4 : decide ((t.n : Int) < (t.n : Int)) = false := by simp
                    have l0 : wr.cell? ⟨bl, olf, none⟩ = some (.int .i64 Z.lo) := (HB.out.cell (p := ⟨bl, olf, none⟩) SL.out.1).trans SL.out.2.1
                    have l1 : bl < wr.heap.size := Nat.lt_of_lt_of_le SL.out.1 HB.out.size
                    cases so
                    · go_wp2_with fail
                      go_roundw
                      case rel => exact ⟨k + 1, by omega, by go_num, I10.out⟩
                      case measure => simp [intOf]; omega
                    · have hz0 := HLAW.out.2.2 HSO.out.symm
                      have d1 : decide (0 < Z.lo) = false := decide_eq_false (by have := HZ1.out; omega)
                      clear hz0
                      go_wp2_with fail
                      go_roundw
                      case rel => exact ⟨k + 1, by omega, by go_num, I10.out⟩
                      case measure => simp [intOf]; omega
        · have hd3 : decide (k < t.m) = false := decide_eq_false hkm
          have hd4 : decide ((k : Int) < (t.m : Int)) = false := decide_eq_false (by omega)
          go_wp2_with fail
          refine (awake10_any _ I5.out.mem.T I5.out.mem.l).mono ?_
          rintro e X9 ⟨rfl, hb⟩
          have I9 := Lib.hid (I5.out.on hb)
          clear hb
          go_wp2_with fail
          go_ret
          exact ⟨rfl, I9.out.low⟩
    · exact absurd (err_valid.1 he) (by rw [HV.out]; simp)
    · rw [he]
      clear he
      go_wp2_with fail
      refine (awake10_any _ I4.out.mem.T I4.out.mem.l).mono ?_
      rintro e X5 ⟨rfl, hb⟩
      have I5 := Lib.hid (I4.out.on hb)
      clear hb
      go_wp2_with fail
      go_ret
      exact ⟨rfl, I5.out.low⟩
end Go.Proofs.YtmeeknmjhlfnaaaDoor
