/- The document's side: without, and fits. -/
import Derived.Test.YtpognhnmkjpipaaDoorR6
namespace Go.Proofs.YtpognhnmkjpipaaDoor
open Go.RowKit
def wk (t : Tst) (x i k : Nat) : Bool := !decide (k = x) && (twoR t i k).isSome
def wi (t : Tst) (x i : Nat) : Bool := !decide (i = x) && (((oneR t i).isSome && decide (1 ≤ t.leaks)) || (decide (2 ≤ t.leaks) && anyB i (wk t x i)))
def withoutB (t : Tst) (x : Nat) : Bool := t.noneB || anyB t.n (wi t x)
def fitsB (t : Tst) : Bool := anyB t.n (fun i => (leakO t i).isSome) || t.noneB
/-- the box of without -/
structure WI (t : Tst) (oa : Option Addr) (ca : Nat) (ob : Option Addr) (cb : Nat) (w W : World) : Prop where
  low : Below w.heap.size w W
  hT : TB t oa ca ob cb w.heap.size W
theorem WI.on {t : Tst} {oa : Option Addr} {ca : Nat} {ob : Option Addr} {cb : Nat} {w : World} {A B : World} (h : WI t oa ca ob cb w A) (hb : Below A.heap.size A B) : WI t oa ca ob cb w B :=
  ⟨h.low.trans (hb.mono h.low.size), h.hT.below hb⟩
set_option maxRecDepth 100000 in
set_option maxHeartbeats 8000000 in
theorem fits_any (t : Tst) (hk : t.Ok) (oa : Option Addr) (ca : Nat) (ob : Option Addr) (cb : Nat) (w : World) (hU : SpnsAt w oa t.n t.u) (hS : StpsAt w ob t.m t.s) :
    Calls Tryd.prog 30 #[t.val oa ca ob cb] w fun e w' => e = .returned (.bool (fitsB t)) ∧ Below w.heap.size w w' := by
  have HU := Lib.hid hU
  have HS := Lib.hid hS
  have HK := Lib.hid hk
  have hn2 := hk.n2
  clear hU hS hk
  go_enter Tryd.func30, Tryd.ntmps30
  go_wp2_with fail
  have hI0 : WI t oa ca ob cb w (w.alloc (.cells #[.slice oa t.n ca, .int .i64 t.leaks, .int .i64 t.least, .slice ob t.m cb] 25)) := ⟨below_alloc1 _ _, Box.new _ 25 w rfl⟩
  obtain ⟨W, hW⟩ : ∃ X, X = w.alloc (.cells #[.slice oa t.n ca, .int .i64 t.leaks, .int .i64 t.least, .slice ob t.m cb] 25) := ⟨_, rfl⟩
  rw [← hW] at hI0 ⊢
  clear hW
  go_loopw [3] (fun v3 wr => ∃ k : Nat, k ≤ t.n ∧ v3 = .int .i64 k ∧ WI t oa ca ob cb w wr ∧ ∀ i, i < k → (leakO t i).isSome = false) (fun i _ => t.n - (intOf i).toNat)
  case atStart => exact ⟨0, Nat.zero_le _, rfl, hI0, fun i hi => by omega⟩
  case round =>
    obtain ⟨k, hk, rfl, hI, hno⟩ := hrel
    have HNO := Lib.hid hno
    have HI := Lib.hid hI
    obtain ⟨c0, c1, c2, c3, c4⟩ := TB.cells hI.hT
    clear hno hI hI0
    by_cases hlt : k < t.n
    · have hd : decide (k < t.n) = true := by simpa using hlt
      go_wp2_with fail
      refine (leakRef_any t HK.out oa ca ob cb k (by omega) _ (HU.out.mono HI.out.low) (HS.out.mono HI.out.low)).mono ?_
      rintro e w2 ⟨rfl, hb2⟩
      have I2 := HI.out.on hb2
      cases ho : (leakO t k).isSome
      · have E := Lib.hid ho
        clear ho
        go_wp2_with fail
        go_roundw
        case rel => exact ⟨k + 1, by omega, by go_num, by first | exact I2 | exact I2.on (below_alloc1 _ _), fun i hi => by
          by_cases h : i = k
          · subst h; exact E.out
          · exact HNO.out i (by omega)⟩
        case measure => simp [intOf]; omega
      · have E := Lib.hid (show fitsB t = true by unfold fitsB; rw [anyB_hit hlt ho]; rfl)
        clear ho
        go_wp2_with fail
        go_ret
        exact ⟨ret_bool (by rw [E.out]), by first | exact I2.low | exact (I2.on (below_alloc1 _ _)).low⟩
    · have hd : decide (k < t.n) = false := by simpa using hlt
      have E := Lib.hid (show fitsB t = t.noneB by unfold fitsB; rw [anyB_none (n := t.n) (p := fun i => (leakO t i).isSome) (fun i hi => HNO.out i (by omega))]; rfl)
      go_wp2_with fail
      refine (none_any t HK.out oa ca ob cb _ (HU.out.mono HI.out.low) (HS.out.mono HI.out.low)).mono ?_
      rintro e w2 ⟨rfl, hb2⟩
      go_wp2_with fail
      go_ret
      exact ⟨ret_bool (by rw [E.out]), (HI.out.on hb2).low⟩
set_option maxRecDepth 100000 in
set_option maxHeartbeats 8000000 in
theorem without_any (t : Tst) (hk : t.Ok) (oa : Option Addr) (ca : Nat) (ob : Option Addr) (cb : Nat) (x : Nat) (w : World) (hU : SpnsAt w oa t.n t.u) (hS : StpsAt w ob t.m t.s) :
    Calls Tryd.prog 33 #[t.val oa ca ob cb, .int .i64 (x : Nat)] w fun e w' => e = .returned (.bool (withoutB t x)) ∧ Below w.heap.size w w' := by
  have HU := Lib.hid hU
  have HS := Lib.hid hS
  have HK := Lib.hid hk
  have hn2 := hk.n2
  clear hU hS hk
  go_enter Tryd.func33, Tryd.ntmps33
  go_wp2_with fail
  have hI0 : WI t oa ca ob cb w (w.alloc (.cells #[.slice oa t.n ca, .int .i64 t.leaks, .int .i64 t.least, .slice ob t.m cb] 25)) := ⟨below_alloc1 _ _, Box.new _ 25 w rfl⟩
  obtain ⟨W, hW⟩ : ∃ X, X = w.alloc (.cells #[.slice oa t.n ca, .int .i64 t.leaks, .int .i64 t.least, .slice ob t.m cb] 25) := ⟨_, rfl⟩
  rw [← hW] at hI0 ⊢
  clear hW
  refine (none_any t HK.out oa ca ob cb _ (HU.out.mono hI0.low) (HS.out.mono hI0.low)).mono ?_
  rintro e w1 ⟨rfl, hb1⟩
  have I1 := hI0.on hb1
  clear hI0 hb1
  cases hnn : t.noneB
  case true =>
    have E := Lib.hid (show withoutB t x = true by unfold withoutB; rw [hnn]; rfl)
    clear hnn
    go_wp2_with fail
    go_ret
    exact ⟨ret_bool (by rw [E.out]), I1.low⟩
  case false =>
    have EW := Lib.hid (show withoutB t x = anyB t.n (wi t x) by unfold withoutB; rw [hnn]; rfl)
    clear hnn
    go_wp2_with fail
    go_loopw [5] (fun v5 wr => ∃ i : Nat, i ≤ t.n ∧ v5 = .int .i64 i ∧ WI t oa ca ob cb w wr ∧ ∀ j, j < i → wi t x j = false) (fun i _ => t.n - (intOf i).toNat)
    case atStart => exact ⟨0, Nat.zero_le _, rfl, I1, fun i hi => by omega⟩
    case round =>
      obtain ⟨i, hi, rfl, hI, hno⟩ := hrel
      have HNO := Lib.hid hno
      have HI := Lib.hid hI
      obtain ⟨c0, c1, c2, c3, c4⟩ := TB.cells hI.hT
      clear hno hI I1
      by_cases hlt : i < t.n
      · have hd : decide (i < t.n) = true := by simpa using hlt
        by_cases hix : i = x
        · have E := Lib.hid (show wi t x i = false by unfold wi; rw [decide_eq_true hix]; rfl)
          have he : ((i : Int) == (x : Int)) = true := by simp; omega
          clear hix
          go_wp2_with fail
          go_roundw
          case rel => exact ⟨i + 1, by omega, by go_num, HI.out, fun j hj => by
            by_cases h : j = i
            · subst h; exact E.out
            · exact HNO.out j (by omega)⟩
          case measure => simp [intOf]; omega
        · have he : ((i : Int) == (x : Int)) = false := by simp; omega
          have E0 := Lib.hid (show wi t x i = (((oneR t i).isSome && decide (1 ≤ t.leaks)) || (decide (2 ≤ t.leaks) && anyB i (wk t x i))) by unfold wi; rw [decide_eq_false hix]; rfl)
          clear hix
          go_wp2_with fail
          refine (one_any t HK.out oa ca ob cb i (by omega) _ (HU.out.mono HI.out.low) (HS.out.mono HI.out.low)).mono ?_
          rintro e w2 ⟨hb2, sp, rfl, -⟩
          have I2 := Lib.hid ((HI.out.on hb2).on (below_alloc1 w2 (.cells #[.int .i64 sp.lo, .int .i64 sp.hi] 37)))
          have k1 := (HI.out.on hb2).hT.cell 1 (v := .int .i64 t.leaks) rfl
          have k4 := (HI.out.on hb2).hT.lt
          clear c0 c1 c2 c3 c4 hb2
          cases ho : (oneR t i).isSome
          case true =>
            by_cases hl1 : 1 ≤ t.leaks
            · have hdl : decide (1 ≤ t.leaks) = true := by simpa using hl1
              have E := Lib.hid (show withoutB t x = true by rw [EW.out]; exact anyB_hit hlt (by rw [E0.out, ho, hdl]; rfl))
              clear ho
              go_wp2_with fail
              go_ret
              exact ⟨ret_bool (by rw [E.out]), I2.out.low⟩
            · have hdl : decide (1 ≤ t.leaks) = false := by simpa using hl1
              have HN1 := Lib.hid (show ((oneR t i).isSome && decide (1 ≤ t.leaks)) = false by rw [hdl]; simp)
              clear ho
              go_wp2_with fail
              clear hl1 hdl k1 k4
              go_loopw [8] (fun v8 wr => ∃ k : Nat, k ≤ i ∧ v8 = .int .i64 k ∧ WI t oa ca ob cb w wr ∧ (t.leaks < 2 → k = 0) ∧ ∀ j, j < k → wk t x i j = false) (fun v8 _ => i - (intOf v8).toNat)
              case atStart => exact ⟨0, Nat.zero_le _, rfl, I2.out, fun _ => rfl, fun j hj => by omega⟩
              case round =>
                obtain ⟨k, hk, rfl, hI3, hk0, hnk⟩ := hrel
                have HI3 := Lib.hid hI3
                have HK0 := Lib.hid hk0
                have HNK := Lib.hid hnk
                obtain ⟨c0, c1, c2, c3, c4⟩ := TB.cells hI3.hT
                clear hI3 hk0 hnk
                by_cases hcon : k < i ∧ 2 ≤ t.leaks
                · obtain ⟨hlk, hl2⟩ := hcon
                  have hdk : decide (k < i) = true := by simpa using hlk
                  have hd2 : decide (2 ≤ t.leaks) = true := by simpa using hl2
                  by_cases hkx : k = x
                  · have E := Lib.hid (show wk t x i k = false by unfold wk; rw [decide_eq_true hkx]; rfl)
                    have hex : ((k : Int) == (x : Int)) = true := by simp; omega
                    clear hkx
                    go_wp2_with fail
                    go_roundw
                    case rel => exact ⟨k + 1, by omega, by go_num, HI3.out, fun h => by omega, fun j hj => by
                      by_cases h : j = k
                      · subst h; exact E.out
                      · exact HNK.out j (by omega)⟩
                    case measure => simp [intOf]; omega
                  · have hex : ((k : Int) == (x : Int)) = false := by simp; omega
                    have E1 := Lib.hid (show wk t x i k = (twoR t i k).isSome by unfold wk; rw [decide_eq_false hkx]; rfl)
                    clear hkx
                    go_wp2_with fail
                    refine (two_any t HK.out oa ca ob cb i k (by omega) (by omega) _ (HU.out.mono HI3.out.low) (HS.out.mono HI3.out.low)).mono ?_
                    rintro e w5 ⟨hb5, sp5, rfl, -⟩
                    have I5 := HI3.out.on hb5
                    clear hb5
                    cases ho5 : (twoR t i k).isSome
                    · have E := Lib.hid (show wk t x i k = false by rw [E1.out, ho5])
                      clear ho5
                      go_wp2_with fail
                      go_roundw
                      case rel => exact ⟨k + 1, by omega, by go_num, I5, fun h => by omega, fun j hj => by
                        by_cases h : j = k
                        · subst h; exact E.out
                        · exact HNK.out j (by omega)⟩
                      case measure => simp [intOf]; omega
                    · have E := Lib.hid (show withoutB t x = true by rw [EW.out]; exact anyB_hit hlt (by rw [E0.out, decide_eq_true hl2, anyB_hit hlk (show wk t x i k = true by rw [E1.out, ho5])]; simp))
                      clear ho5
                      go_wp2_with fail
                      go_ret
                      exact ⟨ret_bool (by rw [E.out]), I5.low⟩
                · have E := Lib.hid (show wi t x i = false by
                    rw [E0.out, HN1.out]
                    by_cases h2 : 2 ≤ t.leaks
                    · rw [anyB_none (n := i) (p := wk t x i) (fun j hj => HNK.out j (by omega))]; simp
                    · rw [decide_eq_false h2]; rfl)
                  by_cases hlk : k < i
                  · have hdk : decide (k < i) = true := by simpa using hlk
                    have hd2 : decide (2 ≤ t.leaks) = false := by simp; omega
                    go_wp2_with fail
                    go_roundw
                    case rel => exact ⟨i + 1, by omega, by go_num, HI3.out, fun j hj => by
                      by_cases h : j = i
                      · subst h; exact E.out
                      · exact HNO.out j (by omega)⟩
                    case measure => simp [intOf]; omega
                  · have hdk : decide (k < i) = false := by simpa using hlk
                    go_wp2_with fail
                    go_roundw
                    case rel => exact ⟨i + 1, by omega, by go_num, HI3.out, fun j hj => by
                      by_cases h : j = i
                      · subst h; exact E.out
                      · exact HNO.out j (by omega)⟩
                    case measure => simp [intOf]; omega
          case false =>
            have HN1 := Lib.hid (show ((oneR t i).isSome && decide (1 ≤ t.leaks)) = false by rw [ho]; rfl)
            clear ho
            go_wp2_with fail
            clear k1 k4
            go_loopw [8] (fun v8 wr => ∃ k : Nat, k ≤ i ∧ v8 = .int .i64 k ∧ WI t oa ca ob cb w wr ∧ (t.leaks < 2 → k = 0) ∧ ∀ j, j < k → wk t x i j = false) (fun v8 _ => i - (intOf v8).toNat)
            case atStart => exact ⟨0, Nat.zero_le _, rfl, I2.out, fun _ => rfl, fun j hj => by omega⟩
            case round =>
              obtain ⟨k, hk, rfl, hI3, hk0, hnk⟩ := hrel
              have HI3 := Lib.hid hI3
              have HK0 := Lib.hid hk0
              have HNK := Lib.hid hnk
              obtain ⟨c0, c1, c2, c3, c4⟩ := TB.cells hI3.hT
              clear hI3 hk0 hnk
              by_cases hcon : k < i ∧ 2 ≤ t.leaks
              · obtain ⟨hlk, hl2⟩ := hcon
                have hdk : decide (k < i) = true := by simpa using hlk
                have hd2 : decide (2 ≤ t.leaks) = true := by simpa using hl2
                by_cases hkx : k = x
                · have E := Lib.hid (show wk t x i k = false by unfold wk; rw [decide_eq_true hkx]; rfl)
                  have hex : ((k : Int) == (x : Int)) = true := by simp; omega
                  clear hkx
                  go_wp2_with fail
                  go_roundw
                  case rel => exact ⟨k + 1, by omega, by go_num, HI3.out, fun h => by omega, fun j hj => by
                    by_cases h : j = k
                    · subst h; exact E.out
                    · exact HNK.out j (by omega)⟩
                  case measure => simp [intOf]; omega
                · have hex : ((k : Int) == (x : Int)) = false := by simp; omega
                  have E1 := Lib.hid (show wk t x i k = (twoR t i k).isSome by unfold wk; rw [decide_eq_false hkx]; rfl)
                  clear hkx
                  go_wp2_with fail
                  refine (two_any t HK.out oa ca ob cb i k (by omega) (by omega) _ (HU.out.mono HI3.out.low) (HS.out.mono HI3.out.low)).mono ?_
                  rintro e w5 ⟨hb5, sp5, rfl, -⟩
                  have I5 := HI3.out.on hb5
                  clear hb5
                  cases ho5 : (twoR t i k).isSome
                  · have E := Lib.hid (show wk t x i k = false by rw [E1.out, ho5])
                    clear ho5
                    go_wp2_with fail
                    go_roundw
                    case rel => exact ⟨k + 1, by omega, by go_num, I5, fun h => by omega, fun j hj => by
                      by_cases h : j = k
                      · subst h; exact E.out
                      · exact HNK.out j (by omega)⟩
                    case measure => simp [intOf]; omega
                  · have E := Lib.hid (show withoutB t x = true by rw [EW.out]; exact anyB_hit hlt (by rw [E0.out, decide_eq_true hl2, anyB_hit hlk (show wk t x i k = true by rw [E1.out, ho5])]; simp))
                    clear ho5
                    go_wp2_with fail
                    go_ret
                    exact ⟨ret_bool (by rw [E.out]), I5.low⟩
              · have E := Lib.hid (show wi t x i = false by
                  rw [E0.out, HN1.out]
                  by_cases h2 : 2 ≤ t.leaks
                  · rw [anyB_none (n := i) (p := wk t x i) (fun j hj => HNK.out j (by omega))]; simp
                  · rw [decide_eq_false h2]; rfl)
                by_cases hlk : k < i
                · have hdk : decide (k < i) = true := by simpa using hlk
                  have hd2 : decide (2 ≤ t.leaks) = false := by simp; omega
                  go_wp2_with fail
                  go_roundw
                  case rel => exact ⟨i + 1, by omega, by go_num, HI3.out, fun j hj => by
                    by_cases h : j = i
                    · subst h; exact E.out
                    · exact HNO.out j (by omega)⟩
                  case measure => simp [intOf]; omega
                · have hdk : decide (k < i) = false := by simpa using hlk
                  go_wp2_with fail
                  go_roundw
                  case rel => exact ⟨i + 1, by omega, by go_num, HI3.out, fun j hj => by
                    by_cases h : j = i
                    · subst h; exact E.out
                    · exact HNO.out j (by omega)⟩
                  case measure => simp [intOf]; omega
      · have hd : decide (i < t.n) = false := by simpa using hlt
        have E := Lib.hid (show withoutB t x = false by rw [EW.out]; exact anyB_none fun j hj => HNO.out j (by omega))
        go_wp2_with fail
        go_ret
        exact ⟨ret_bool (by rw [E.out]), HI.out.low⟩
end Go.Proofs.YtpognhnmkjpipaaDoor
