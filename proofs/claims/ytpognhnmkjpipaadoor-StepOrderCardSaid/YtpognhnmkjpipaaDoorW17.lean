/- Next of the program: what it returns. -/
import Derived.Test.YtpognhnmkjpipaaDoorW16
namespace Go.Proofs.YtpognhnmkjpipaaDoor
open Go.RowKit
def Tst.nextErr (t : Tst) (m : Nat) (v : Nat → Int) : Int :=
  if t.valid then (if m ≤ 16 then (if anyB m (fun i => badV t.n (v i)) then 2 else if t.fitB then (if decide (sizeN (verd t).can < 2) || decide (m = 0) then 4 else 0) else 6) else 3) else 1
def Tst.nextR (t : Tst) (m : Nat) (v : Nat → Int) : Nat × Nat := if t.nextErr m v = 0 then bestV (verd t).can (fun i => (v i).toNat) m else (0, 0)
theorem bestV_le (c : Nat) (f : Nat → Nat) : ∀ k, (bestV c f k).2 ≤ 11 ∧ (bestV c f k).1 ≤ k
  | 0 => by simp [bestV]
  | k + 1 => by
    have := bestV_le c f k
    unfold bestV
    split
    · dsimp only; omega
    · omega
theorem badV_no {n : Nat} {k : Int} (h : badV n k = false) : 0 ≤ k ∧ k.toNat < 2 ^ n := by
  have h8 : withinB k 0 (top n) = true := by
    cases h7 : withinB k 0 (top n)
    · rw [badV, h7] at h; cases h
    · rfl
  have h9 : 0 ≤ k ∧ k ≤ ((2 ^ n : Nat) : Int) - 1 := of_decide_eq_true h8
  generalize (2 ^ n : Nat) = p at *
  omega
theorem ret_next {t : Tst} {m : Nat} {v : Nat → Int} {e : Int} (h : t.nextErr m v = e) (he : e ≠ 0) : Ending.returned (.tuple #[.int .i64 0, .int .i64 0, .int .i64 e]) = .returned (.tuple #[.int .i64 ((t.nextR m v).1 : Nat), .int .i64 ((t.nextR m v).2 : Nat), .int .i64 (t.nextErr m v)]) := by
  unfold Tst.nextR
  rw [h, if_neg he]
  rfl
set_option maxRecDepth 100000 in
set_option maxHeartbeats 4000000 in
theorem next_any (t : Tst) (oa : Option Addr) (ca : Nat) (ob : Option Addr) (cb : Nat) (vo : Option Addr) (m vc : Nat) (v : Nat → Int) (w : World) (hn : t.n ≤ 1000000) (hm : t.m ≤ 1000000) (hmv : m ≤ 1000000) (hU : SpnsAt w oa t.n t.u) (hS : StpsAt w ob t.m t.s) (hV : IntsAt w vo m v) (hT : TabAt 1 Lib.deBruijn64tab w) (h1 : 1 < w.heap.size) :
    Calls Tryd.prog 16 #[t.val oa ca ob cb, .slice vo m vc] w fun e w' => e = .returned (.tuple #[.int .i64 ((t.nextR m v).1 : Nat), .int .i64 ((t.nextR m v).2 : Nat), .int .i64 (t.nextErr m v)]) ∧ Below w.heap.size w w' := by
  have HU := Lib.hid hU
  have HS := Lib.hid hS
  have HT := Lib.hid hT
  have HV := Lib.hid hV
  clear hU hS hT hV
  go_enter Tryd.func16, Tryd.ntmps16
  go_wp2_with fail
  have zt0 := Box.new (g := w.heap.size) #[.slice oa t.n ca, .int .i64 t.leaks, .int .i64 t.least, .slice ob t.m cb] 25 w rfl
  have hb0 := below_alloc1 w (.cells #[.slice oa t.n ca, .int .i64 t.leaks, .int .i64 t.least, .slice ob t.m cb] 25)
  obtain ⟨W0, hW0⟩ : ∃ X, X = w.alloc (.cells #[.slice oa t.n ca, .int .i64 t.leaks, .int .i64 t.least, .slice ob t.m cb] 25) := ⟨_, rfl⟩
  rw [← hW0] at zt0 hb0 ⊢
  clear hW0
  refine (judge_any t oa ca ob cb _ hn hm (HU.out.mono hb0) (HS.out.mono hb0) (fun j hj => (hb0.cell (p := ⟨1, j, none⟩) h1).trans (HT.out j hj)) (Nat.lt_of_lt_of_le h1 hb0.size)).mono ?_
  rintro e w1 ⟨hb1, hor⟩
  have hbw := hb0.trans (hb1.mono hb0.size)
  have zt := zt0.below hb1
  have ZT := Lib.hid zt
  have HV1 := Lib.hid (HV.out.mono hbw)
  clear zt0 hb0 hb1 zt
  rcases hor with ⟨hv, rfl⟩ | hor
  · have E := Lib.hid (show t.nextErr m v = 1 by unfold Tst.nextErr; rw [hv]; rfl)
    clear hv
    go_wp2_with fail
    go_ret3
    exact ⟨ret_next E.out (by decide), hbw⟩
  have hval : t.valid = true := by rcases hor with ⟨h, -⟩ | ⟨h, -⟩ <;> exact h
  have hn2 := (Tst.ok hval).n2
  by_cases hm16 : 16 < m
  · have E := Lib.hid (show t.nextErr m v = 3 by unfold Tst.nextErr; rw [hval, if_pos rfl, if_neg (by omega)])
    rcases hor with ⟨hv, hg, rfl⟩ | ⟨hv, hg, gv, rfl, hz⟩
    all_goals
      clear hv hg hval
      go_wp2_with fail
      go_ret3
      exact ⟨ret_next E.out (by decide), hbw⟩
  have hm17 : m ≤ 16 := by omega
  cases hbad : anyB m (fun i => badV t.n (v i))
  case true =>
    have E := Lib.hid (show t.nextErr m v = 2 by unfold Tst.nextErr; rw [hval, if_pos rfl, if_pos hm17, hbad]; rfl)
    have HB := Lib.hid hbad
    rcases hor with ⟨hv, hg, rfl⟩ | ⟨hv, hg, gv, rfl, hz⟩
    all_goals
      clear hv hg hval hbad
      go_wp2_with fail
      refine (containsInts_any vo m vc v _ hmv HV1.out hn2 ZT.out).mono ?_
      rintro e w2 ⟨rfl, hb2⟩
      rw [HB.out]
      go_wp2_with fail
      go_ret3
      exact ⟨ret_next E.out (by decide), hbw.trans (hb2.mono hbw.size)⟩
  case false =>
    have HB := Lib.hid hbad
    rcases hor with ⟨hv, hg, rfl⟩ | ⟨hv, hg, gv, rfl, hz⟩
    · have E := Lib.hid (show t.nextErr m v = 6 by unfold Tst.nextErr; rw [hval, if_pos rfl, if_pos hm17, hbad, err_fit hg]; rfl)
      clear hv hg hval hbad
      go_wp2_with fail
      refine (containsInts_any vo m vc v _ hmv HV1.out hn2 ZT.out).mono ?_
      rintro e w2 ⟨rfl, hb2⟩
      rw [HB.out]
      go_wp2_with fail
      go_ret3
      exact ⟨ret_next E.out (by decide), hbw.trans (hb2.mono hbw.size)⟩
    · have E0 := Lib.hid (show t.nextErr m v = if decide (sizeN (verd t).can < 2) || decide (m = 0) then 4 else 0 by unfold Tst.nextErr; rw [hval, if_pos rfl, if_pos hm17, hbad, err_fit1 hg]; rfl)
      have hbd := (verd_bd hv).c
      have h10 := pow_ten hn2
      have hvs : ∀ i, i < m → 0 ≤ v i ∧ (v i).toNat < 1024 := fun i hi => by
        have h9 : badV t.n (v i) = false := by
          cases h9 : badV t.n (v i)
          · rfl
          · rw [← hbad]; exact (anyB_iff.2 ⟨i, hi, h9⟩).symm
        have := badV_no h9
        exact ⟨this.1, by omega⟩
      have HVS := Lib.hid hvs
      clear hv hg hval hbad hvs
      go_wp2_with fail
      refine (containsInts_any vo m vc v _ hmv HV1.out hn2 ZT.out).mono ?_
      rintro e w2 ⟨rfl, hb2⟩
      rw [HB.out]
      have z2 := hz.below hb2
      have hbw2 := hbw.trans (hb2.mono hbw.size)
      have HV2 := Lib.hid (HV1.out.mono hb2)
      have c2 := z2.cell 2 (v := .int .i64 ((verd t).can : Nat)) rfl
      have hl := z2.lt
      have Z2 := Lib.hid z2
      clear hz z2 hb2
      obtain ⟨c, hc⟩ : ∃ c, c = (verd t).can := ⟨_, rfl⟩
      rw [← hc] at hbd c2 E0
      have HC := Lib.hid hc
      clear hc
      have hs10 := sizeN_le c
      by_cases hs2 : sizeN c < 2
      · have E := Lib.hid (show t.nextErr m v = 4 by rw [E0.out]; simp [hs2])
        go_wp2_with (go_at_call 38; refine (size_any c hbd _).mono ?_; rintro e w' ⟨rfl, rfl⟩)
        go_ret3
        exact ⟨ret_next E.out (by decide), hbw2⟩
      · by_cases hm0 : m = 0
        · have E := Lib.hid (show t.nextErr m v = 4 by rw [E0.out]; simp [hm0])
          have hm0' : ((m : Int) == 0) = true := by simp [hm0]
          clear hm0
          go_wp2_with (go_at_call 38; refine (size_any c hbd _).mono ?_; rintro e w' ⟨rfl, rfl⟩)
          go_ret3
          exact ⟨ret_next E.out (by decide), hbw2⟩
        · have E := Lib.hid (show t.nextErr m v = 0 by rw [E0.out]; simp [hm0, hs2])
          have hm0' : ((m : Int) == 0) = false := by simp [hm0]
          clear hm0
          go_wp2_with (go_at_call 38; refine (size_any c hbd _).mono ?_; rintro e w' ⟨rfl, rfl⟩)
          go_loopw [4, 5, 49] (fun v4 v5 v49 wr => ∃ k : Nat, k ≤ m ∧ v49 = .int .i64 k ∧ v4 = .int .i64 ((bestV c (fun i => (v i).toNat) k).1 : Nat) ∧ v5 = .int .i64 ((bestV c (fun i => (v i).toNat) k).2 : Nat) ∧ Below w'.heap.size w' wr) (fun _ _ i _ => m - (intOf i).toNat)
          case atStart => exact ⟨0, Nat.zero_le _, rfl, rfl, rfl, Below.refl _ _⟩
          case round =>
            obtain ⟨k, hk, rfl, rfl, rfl, hb0⟩ := hrel
            have hbe := bestV_le c (fun i => (v i).toNat) k
            by_cases hlt : k < m
            · obtain ⟨b, off, rfl, hlt0, d0⟩ := (HV2.out.mono hb0) k hlt
              obtain ⟨hv0, hv1⟩ := HVS.out k hlt
              obtain ⟨s, hs⟩ : ∃ s : Nat, s = (v k).toNat := ⟨_, rfl⟩
              rw [show v k = (s : Int) by omega] at d0
              have hs9 : s < 1024 := by omega
              have HSTEP := Lib.hid (show bestV c (fun i => (v i).toNat) (k + 1) = if partsN c s < (bestV c (fun i => (v i).toNat) k).2 then (k, partsN c s) else bestV c (fun i => (v i).toNat) k by rw [hs]; rfl)
              clear hv0 hv1 hs
              obtain ⟨q, hq⟩ : ∃ q, q = bestV c (fun i => (v i).toNat) k := ⟨_, rfl⟩
              rw [← hq] at hbe HSTEP ⊢
              clear hq
              have V1 := i64_and_nat c s (by omega) (by omega)
              have V2 := i64_andNot_nat c s (by omega) (by omega)
              have x1 : c &&& s < 1024 := Nat.lt_of_le_of_lt Nat.and_le_left hbd
              have x2 : c ^^^ (c &&& s) < 1024 := Nat.xor_lt_two_pow (n := 10) hbd x1
              have hl9 : gv < wr.heap.size := Nat.lt_of_lt_of_le hl hb0.size
              have c9 := (hb0.cell (p := ⟨gv, 2, none⟩) hl).trans c2
              go_wp2_with fail
              go_big_quiet ((go_at_call 38; exact Calls.quiet_of_same (size_any _ (by assumption) _)))
              have EP : (if sizeN (c &&& s) < sizeN (c ^^^ (c &&& s)) then ((sizeN (c ^^^ (c &&& s)) : Nat) : Int) else ((sizeN (c &&& s) : Nat) : Int)) = ((partsN c s : Nat) : Int) := by unfold partsN; split <;> omega
              rw [EP]
              have hp10 : partsN c s ≤ 10 := by have := sizeN_le (c &&& s); have := sizeN_le (c ^^^ (c &&& s)); unfold partsN; omega
              have hB9 := below_drewN hb0 nq
              obtain ⟨W9, hW9⟩ : ∃ X, X = wr.drewN nq := ⟨_, rfl⟩
              rw [← hW9] at hB9 ⊢
              clear hW9 EP V1 V2 x1 x2 c9 d0
              obtain ⟨z, hz⟩ : ∃ z, z = partsN c s := ⟨_, rfl⟩
              rw [← hz] at hp10 HSTEP ⊢
              clear hz
              by_cases hlz : z < q.2
              · have E1 := Lib.hid (show bestV c (fun i => (v i).toNat) (k + 1) = (k, z) by rw [HSTEP.out, if_pos hlz])
                go_wp2_with fail
                go_roundw
                case rel => exact ⟨k + 1, by omega, by go_num, by rw [E1.out], by rw [E1.out], hB9⟩
                case measure => simp [intOf]; omega
              · have E1 := Lib.hid (show bestV c (fun i => (v i).toNat) (k + 1) = q by rw [HSTEP.out, if_neg hlz])
                go_wp2_with fail
                go_roundw
                case rel => exact ⟨k + 1, by omega, by go_num, by rw [E1.out], by rw [E1.out], hB9⟩
                case measure => simp [intOf]; omega
            · obtain rfl : k = m := by omega
              have EQ := Lib.hid (show t.nextR k v = bestV c (fun i => (v i).toNat) k by unfold Tst.nextR; rw [E.out, if_pos rfl, HC.out])
              go_wp2_with fail
              go_ret3
              exact ⟨by rw [EQ.out, E.out]; rfl, hbw2.trans (hb0.mono hbw2.size)⟩
end Go.Proofs.YtpognhnmkjpipaaDoor
