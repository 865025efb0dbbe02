/- The document's side: Next. -/
import Derived.Test.YtpognhnmkjpipaaDoorR9
import Derived.Test.YtpognhnmkjpipaaDoorW17
namespace Go.Proofs.YtpognhnmkjpipaaDoor
open Go.RowKit
def docNextErr (t : Tst) (m : Nat) (v : Nat → Int) : Int :=
  if t.valid then (if m ≤ 16 then (if anyB m (fun i => badV t.n (v i)) then 2 else if fitsB t then (if decide (sizeN (docCan t) < 2) || decide (m = 0) then 4 else 0) else 6) else 3) else 1
def insN (c s : Nat) : Nat → Nat
  | 0 => 0
  | k + 1 => if hasB c k && hasB s k then insN c s k + 1 else insN c s k
def partsI (c s n : Nat) : Int := max (insN c s n : Int) ((sizeN c : Int) - insN c s n)
def docBest (c n : Nat) (f : Nat → Nat) : Nat → Nat × Int
  | 0 => (0, (sizeN c : Int) + 1)
  | k + 1 => if partsI c (f k) n < (docBest c n f k).2 then (k, partsI c (f k) n) else docBest c n f k
def docNext (t : Tst) (m : Nat) (v : Nat → Int) : Nat × Int := if docNextErr t m v = 0 then docBest (docCan t) t.n (fun i => (v i).toNat) m else (0, 0)
theorem insN_le (c s : Nat) : ∀ k, insN c s k ≤ k
  | 0 => Nat.le_refl _
  | k + 1 => by
    have := insN_le c s k
    unfold insN
    split <;> omega
theorem docBest_bd (c n : Nat) (f : Nat → Nat) (hn : n ≤ 10) : ∀ k, -100 ≤ (docBest c n f k).2 ∧ (docBest c n f k).2 ≤ 100 ∧ (docBest c n f k).1 ≤ k
  | 0 => by
    have := sizeN_le c
    simp only [docBest]; omega
  | k + 1 => by
    have := docBest_bd c n f hn k
    have h2 := insN_le c (f k) n
    have h3 := sizeN_le c
    unfold docBest
    split
    · unfold partsI; dsimp only; omega
    · omega
theorem ret_dnext {t : Tst} {m : Nat} {v : Nat → Int} {e : Int} (h : docNextErr t m v = e) (he : e ≠ 0) : Ending.returned (.tuple #[.int .i64 0, .int .i64 0, .int .i64 e]) = .returned (.tuple #[.int .i64 ((docNext t m v).1 : Nat), .int .i64 (docNext t m v).2, .int .i64 (docNextErr t m v)]) := by
  unfold docNext
  rw [h, if_neg he]
  rfl
theorem docCan_lt {t : Tst} (h : t.n ≤ 10) : docCan t < 1024 := by
  have := pow_ten h
  unfold docCan
  split
  · have := sumB_lt (fun i => (leakO t i).isSome) t.n; omega
  · omega
set_option maxRecDepth 100000 in
set_option maxHeartbeats 8000000 in
theorem docNext_any (t : Tst) (oa : Option Addr) (ca : Nat) (ob : Option Addr) (cb : Nat) (vo : Option Addr) (m vc : Nat) (v : Nat → Int) (w : World) (hn : t.n ≤ 1000000) (hm : t.m ≤ 1000000) (hmv : m ≤ 1000000) (hU : SpnsAt w oa t.n t.u) (hS : StpsAt w ob t.m t.s) (hV : IntsAt w vo m v) :
    Calls Tryd.prog 17 #[t.val oa ca ob cb, .slice vo m vc] w fun e w' => e = .returned (.tuple #[.int .i64 ((docNext t m v).1 : Nat), .int .i64 (docNext t m v).2, .int .i64 (docNextErr t m v)]) ∧ Below w.heap.size w w' := by
  have HU := Lib.hid hU
  have HS := Lib.hid hS
  have HV := Lib.hid hV
  clear hU hS hV
  go_enter Tryd.func17, Tryd.ntmps17
  go_wp2_with fail
  have hI0 : WI t oa ca ob cb w (w.alloc (.cells #[.slice oa t.n ca, .int .i64 t.leaks, .int .i64 t.least, .slice ob t.m cb] 25)) := ⟨below_alloc1 _ _, Box.new _ 25 w rfl⟩
  obtain ⟨W, hW⟩ : ∃ X, X = w.alloc (.cells #[.slice oa t.n ca, .int .i64 t.leaks, .int .i64 t.least, .slice ob t.m cb] 25) := ⟨_, rfl⟩
  rw [← hW] at hI0 ⊢
  clear hW
  refine (refTest_any t oa ca ob cb _ hn hm (HU.out.mono hI0.low) (HS.out.mono hI0.low)).mono ?_
  rintro e w1 ⟨rfl, hb1⟩
  have I1 := Lib.hid (hI0.on hb1)
  clear hI0 hb1
  cases hv : t.valid
  · have E := Lib.hid (show docNextErr t m v = 1 by unfold docNextErr; rw [hv]; rfl)
    clear hv
    go_wp2_with fail
    go_ret3
    exact ⟨ret_dnext E.out (by decide), I1.out.low⟩
  have HK := Lib.hid (Tst.ok hv)
  have hn2 := HK.out.n2
  have HVAL := Lib.hid hv
  clear hv
  by_cases hm16 : 16 < m
  · have E := Lib.hid (show docNextErr t m v = 3 by unfold docNextErr; rw [HVAL.out, if_pos rfl, if_neg (by omega)])
    go_wp2_with fail
    go_ret3
    exact ⟨ret_dnext E.out (by decide), I1.out.low⟩
  have hm17 : m ≤ 16 := by omega
  have E0 := Lib.hid (show docNextErr t m v = if anyB m (fun i => badV t.n (v i)) then 2 else if fitsB t then (if decide (sizeN (docCan t) < 2) || decide (m = 0) then 4 else 0) else 6 by unfold docNextErr; rw [HVAL.out, if_pos rfl, if_pos hm17])
  obtain ⟨M, hM⟩ : ∃ M, M = 2 ^ t.n := ⟨_, rfl⟩
  have hM2 := pow_ten hn2
  have hM1 := Nat.two_pow_pos t.n
  have HP := Lib.hid (fun W => power_b t.n W (by omega))
  have HTOP := Lib.hid (show top t.n = (M : Int) - 1 by unfold top; rw [hM])
  rw [← hM] at hM2 hM1 HP
  have HM := Lib.hid hM
  clear hM
  go_wp2_with fail
  go_loopw [7] (fun v7 wr => ∃ k : Nat, k ≤ m ∧ v7 = .int .i64 k ∧ WI t oa ca ob cb w wr ∧ ∀ i, i < k → badV t.n (v i) = false) (fun i _ => m - (intOf i).toNat)
  case atStart => exact ⟨0, Nat.zero_le _, rfl, I1.out, fun i hi => by omega⟩
  case round =>
    obtain ⟨k, hk, rfl, hI, hno⟩ := hrel
    have HI := Lib.hid hI
    have HNO := Lib.hid hno
    obtain ⟨c0, c1, c2, c3, c4⟩ := TB.cells hI.hT
    clear hI hno I1
    by_cases hlt : k < m
    · have hd : decide (k < m) = true := by simpa using hlt
      obtain ⟨b, off, rfl, hlt0, d0⟩ := (HV.out.mono HI.out.low) k hlt
      have f0 : ∀ W : Aft wr, W.val.cell? ⟨w.heap.size, 0, none⟩ = some (.slice oa t.n ca) := fun W => (W.below.cell (p := ⟨w.heap.size, 0, none⟩) c4).trans c0
      have f1 : ∀ W : Aft wr, W.val.cell? ⟨b, off + k, none⟩ = some (.int .i64 (v k)) := fun W => (W.below.cell (p := ⟨b, off + k, none⟩) hlt0).trans d0
      cases hw1 : withinB (v k) 0 ((M : Int) - 1)
      · have HIN := Lib.hid (show ∀ W, Calls Tryd.prog 40 #[.int .i64 (v k), .int .i64 0, .int .i64 ((M : Int) - 1)] W fun e w' => e = .returned (.bool false) ∧ Below W.heap.size W w' from fun W => by rw [← hw1]; exact in_b _ _ _ _)
        have E := Lib.hid (show docNextErr t m v = 2 by rw [E0.out, anyB_hit hlt (by unfold badV; rw [HTOP.out, hw1]; rfl)]; rfl)
        clear hw1 d0
        go_wp2_with fail
        refine wp_region_aft (by kernel_rfl) (by kernel_rfl) ?_
        repeat (go_big_quiet_step ((first | (go_at_call 32; exact aft_call (HP.out _)) | (go_at_call 40; exact aft_call (HIN.out _)))))
        refine wpQuiet_nil ?_
        intro WA
        obtain ⟨wy, hwy⟩ : ∃ X, X = WA.val := ⟨_, rfl⟩
        have hby := WA.below
        rw [← hwy] at hby ⊢
        clear hwy WA
        go_wp2_with fail
        go_ret3
        exact ⟨ret_dnext E.out (by decide), (HI.out.on hby).low⟩
      · have HIN := Lib.hid (show ∀ W, Calls Tryd.prog 40 #[.int .i64 (v k), .int .i64 0, .int .i64 ((M : Int) - 1)] W fun e w' => e = .returned (.bool true) ∧ Below W.heap.size W w' from fun W => by rw [← hw1]; exact in_b _ _ _ _)
        have E := Lib.hid (show badV t.n (v k) = false by unfold badV; rw [HTOP.out, hw1]; rfl)
        clear hw1 d0
        go_wp2_with fail
        refine wp_region_aft (by kernel_rfl) (by kernel_rfl) ?_
        repeat (go_big_quiet_step ((first | (go_at_call 32; exact aft_call (HP.out _)) | (go_at_call 40; exact aft_call (HIN.out _)))))
        refine wpQuiet_nil ?_
        intro WA
        obtain ⟨wy, hwy⟩ : ∃ X, X = WA.val := ⟨_, rfl⟩
        have hby := WA.below
        rw [← hwy] at hby ⊢
        clear hwy WA
        go_wp2_with fail
        go_roundw
        case rel => exact ⟨k + 1, by omega, by go_num, HI.out.on hby, fun i hi => by
          by_cases h : i = k
          · subst h; exact E.out
          · exact HNO.out i (by omega)⟩
        case measure => simp [intOf]; omega
    · have hd : decide (k < m) = false := by simpa using hlt
      have E1 := Lib.hid (show docNextErr t m v = if fitsB t then (if decide (sizeN (docCan t) < 2) || decide (m = 0) then 4 else 0) else 6 by rw [E0.out, anyB_none (n := m) (p := fun i => badV t.n (v i)) (fun i hi => HNO.out i (by omega))]; rfl)
      have HVS := Lib.hid (show ∀ i, i < m → 0 ≤ v i ∧ (v i).toNat < 1024 from fun i hi => by
        have := badV_no (HNO.out i (by omega))
        rw [← HM.out] at this
        exact ⟨this.1, by omega⟩)
      clear E0 HNO
      go_wp2_with fail
      refine (docSuspects_any t oa ca ob cb _ hn hm (HU.out.mono HI.out.low) (HS.out.mono HI.out.low)).mono ?_
      rintro e w2 ⟨rfl, hb2⟩
      have I2 := Lib.hid (HI.out.on hb2)
      have hc9 := docCan_lt (t := t) hn2
      clear c0 c1 c2 c3 c4 hb2
      cases hf : fitsB t
      · have E := Lib.hid (show docNextErr t m v = 6 by rw [E1.out, hf]; rfl)
        have ED := Lib.hid (derr_six HVAL.out hf)
        rw [ED.out]
        clear hf
        go_wp2_with fail
        go_ret3
        exact ⟨ret_dnext E.out (by decide), I2.out.low⟩
      · have E2 := Lib.hid (show docNextErr t m v = if decide (sizeN (docCan t) < 2) || decide (m = 0) then 4 else 0 by rw [E1.out, hf]; rfl)
        have ED := Lib.hid (derr_zero HVAL.out hf)
        rw [ED.out]
        obtain ⟨c, hc⟩ : ∃ c, c = docCan t := ⟨_, rfl⟩
        rw [← hc] at hc9 E2 ⊢
        have HC := Lib.hid hc
        clear hf hc E1
        have hs10 := sizeN_le c
        by_cases hs2 : sizeN c < 2
        · have E := Lib.hid (show docNextErr t m v = 4 by rw [E2.out]; simp [hs2])
          go_wp2_with (go_at_call 27; refine (refSize_any c hc9 _).mono ?_; rintro e w' ⟨rfl, rfl⟩)
          go_ret3
          exact ⟨ret_dnext E.out (by decide), I2.out.low⟩
        by_cases hm0 : m = 0
        · have E := Lib.hid (show docNextErr t m v = 4 by rw [E2.out]; simp [hm0])
          have hm0' : ((m : Int) == 0) = true := by simp [hm0]
          clear hm0
          go_wp2_with (go_at_call 27; refine (refSize_any c hc9 _).mono ?_; rintro e w' ⟨rfl, rfl⟩)
          go_ret3
          exact ⟨ret_dnext E.out (by decide), I2.out.low⟩
        have E := Lib.hid (show docNextErr t m v = 0 by rw [E2.out]; simp [hm0, hs2])
        have hm0' : ((m : Int) == 0) = false := by simp [hm0]
        clear hm0 E2
        go_wp2_with (go_at_call 27; refine (refSize_any c hc9 _).mono ?_; rintro e w' ⟨rfl, rfl⟩)
        go_loopw [11, 12, 13] (fun v11 v12 v13 wr => ∃ i : Nat, i ≤ m ∧ v13 = .int .i64 i ∧ v11 = .int .i64 ((docBest c t.n (fun i => (v i).toNat) i).1 : Nat) ∧ v12 = .int .i64 (docBest c t.n (fun i => (v i).toNat) i).2 ∧ WI t oa ca ob cb w wr) (fun _ _ i _ => m - (intOf i).toNat)
        case atStart => exact ⟨0, Nat.zero_le _, rfl, rfl, rfl, I2.out⟩
        case round =>
          obtain ⟨i, hi, rfl, rfl, rfl, hI3⟩ := hrel
          have HI3 := Lib.hid hI3
          have hbe := docBest_bd c t.n (fun i => (v i).toNat) hn2 i
          clear hI3
          by_cases hli : i < m
          · have hdi : decide (i < m) = true := by simpa using hli
            obtain ⟨hv0, hv1⟩ := HVS.out i hli
            obtain ⟨s, hs⟩ : ∃ s : Nat, s = (v i).toNat := ⟨_, rfl⟩
            have HSV := Lib.hid (show v i = (s : Int) by omega)
            have hs9 : s < 1024 := by omega
            have HSTEP := Lib.hid (show docBest c t.n (fun i => (v i).toNat) (i + 1) = if partsI c s t.n < (docBest c t.n (fun i => (v i).toNat) i).2 then (i, partsI c s t.n) else docBest c t.n (fun i => (v i).toNat) i by rw [hs]; rfl)
            clear hv0 hv1 hs
            obtain ⟨q, hq⟩ : ∃ q, q = docBest c t.n (fun i => (v i).toNat) i := ⟨_, rfl⟩
            rw [← hq] at hbe HSTEP ⊢
            clear hq
            go_wp2_with fail
            go_loopw [14, 15] (fun v14 v15 wr => ∃ k : Nat, k ≤ t.n ∧ v15 = .int .i64 k ∧ v14 = .int .i64 (insN c s k : Nat) ∧ WI t oa ca ob cb w wr) (fun _ k _ => t.n - (intOf k).toNat)
            case atStart => exact ⟨0, Nat.zero_le _, rfl, rfl, HI3.out⟩
            case round =>
              obtain ⟨k, hk, rfl, rfl, hI4⟩ := hrel
              have HI4 := Lib.hid hI4
              obtain ⟨c0, c1, c2, c3, c4⟩ := TB.cells hI4.hT
              have hin := insN_le c s k
              clear hI4
              by_cases hlk : k < t.n
              · have hdk : decide (k < t.n) = true := by simpa using hlk
                have hVw := HV.out.mono HI4.out.low
                obtain ⟨b, off, rfl, hlt0, d0⟩ := hVw i hli
                rw [HSV.out] at d0
                have HST := Lib.hid (show insN c s (k + 1) = if hasB c k && hasB s k then insN c s k + 1 else insN c s k from rfl)
                obtain ⟨n9, hn9⟩ : ∃ n, n = insN c s k := ⟨_, rfl⟩
                rw [← hn9] at hin HST ⊢
                clear hn9 hVw
                go_wp2_with fail
                refine (has_any c k _ (by omega) (by omega)).mono ?_
                rintro e w9 ⟨rfl, rfl⟩
                cases hc1 : hasB c k
                · have E3 := Lib.hid (show insN c s (k + 1) = n9 by rw [HST.out, hc1]; rfl)
                  clear hc1
                  go_wp2_with fail
                  go_roundw
                  case rel => exact ⟨k + 1, by omega, by go_num, by rw [E3.out], HI4.out⟩
                  case measure => simp [intOf]; omega
                · go_wp2_with fail
                  refine (has_any s k _ (by omega) (by omega)).mono ?_
                  rintro e w9 ⟨rfl, rfl⟩
                  cases hc2 : hasB s k
                  · have E3 := Lib.hid (show insN c s (k + 1) = n9 by rw [HST.out, hc1, hc2]; rfl)
                    clear hc1 hc2
                    go_wp2_with fail
                    go_roundw
                    case rel => exact ⟨k + 1, by omega, by go_num, by rw [E3.out], HI4.out⟩
                    case measure => simp [intOf]; omega
                  · have E3 := Lib.hid (show insN c s (k + 1) = n9 + 1 by rw [HST.out, hc1, hc2]; rfl)
                    clear hc1 hc2
                    go_wp2_with fail
                    go_roundw
                    case rel => exact ⟨k + 1, by omega, by go_num, by rw [E3.out]; rfl, HI4.out⟩
                    case measure => simp [intOf]; omega
              · obtain rfl : k = t.n := by omega
                have hdk : decide (t.n < t.n) = false := by simp
                have EPP := Lib.hid (show partsI c s t.n = max (insN c s t.n : Int) ((sizeN c : Int) - insN c s t.n) from rfl)
                obtain ⟨n9, hn9⟩ : ∃ n, n = insN c s t.n := ⟨_, rfl⟩
                rw [← hn9] at hin EPP ⊢
                clear hn9 c0 c1 c2 c3
                obtain ⟨c0, c1, c2, c3, -⟩ := TB.cells HI4.out.hT
                go_wp2_with fail
                refine (refSize_any c hc9 _).mono ?_
                rintro e w9 ⟨rfl, rfl⟩
                go_upto_region 26 with fail
                have EP : (if (n9 : Int) < (sizeN c : Int) - (n9 : Int) then (sizeN c : Int) - (n9 : Int) else (n9 : Int)) = partsI c s t.n := by rw [EPP.out]; split <;> omega
                rw [EP]
                have hpb : -100 ≤ partsI c s t.n ∧ partsI c s t.n ≤ 100 := by rw [EPP.out]; omega
                obtain ⟨z, hz⟩ : ∃ z, z = partsI c s t.n := ⟨_, rfl⟩
                rw [← hz] at hpb HSTEP ⊢
                clear hz EP EPP
                by_cases hlz : z < q.2
                · have E1 := Lib.hid (show docBest c t.n (fun i => (v i).toNat) (i + 1) = (i, z) by rw [HSTEP.out, if_pos hlz])
                  go_wp2_with fail
                  go_roundw
                  case rel => exact ⟨i + 1, by omega, by go_num, by rw [E1.out], by rw [E1.out], HI4.out⟩
                  case measure => simp [intOf]; omega
                · have E1 := Lib.hid (show docBest c t.n (fun i => (v i).toNat) (i + 1) = q by rw [HSTEP.out, if_neg hlz])
                  go_wp2_with fail
                  go_roundw
                  case rel => exact ⟨i + 1, by omega, by go_num, by rw [E1.out], by rw [E1.out], HI4.out⟩
                  case measure => simp [intOf]; omega
          · obtain rfl : i = m := by omega
            have hdi : decide (i < i) = false := by simp
            have EQ := Lib.hid (show docNext t i v = docBest c t.n (fun i => (v i).toNat) i by unfold docNext; rw [E.out, if_pos rfl, HC.out])
            go_wp2_with fail
            go_ret3
            exact ⟨by rw [EQ.out, E.out]; rfl, HI3.out.low⟩
end Go.Proofs.YtpognhnmkjpipaaDoor
