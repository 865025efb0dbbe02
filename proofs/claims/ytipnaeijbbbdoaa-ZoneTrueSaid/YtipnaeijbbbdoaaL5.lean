/- Zone: ZoneTrue returns true. -/
import Derived.Test.YtipnaeijbbbdoaaT2
namespace Go.Proofs.Ytipnaeijbbbdoaa
open Go.RowKit
set_option maxRecDepth 100000 in
set_option maxHeartbeats 16000000 in
theorem zoneTrue_any (ob : Option Addr) (h cb : Nat) (v : Nat → Nat) (w : World) (hh : h ≤ 9223372036854775807) (hV : U16sAt w ob h v) :
    Calls Try.prog 5 #[.slice ob h cb] w fun e w' => e = .returned (.bool true) ∧ Below w.heap.size w w' := by
  have HB := Lib.hid (Below.refl w.heap.size w)
  by_cases h0 : h = 0
  · subst h0
    go_enter Try.func5, Try.ntmps5
    go_wp2_with fail
    refine (awake_any _).mono ?_
    rintro e wz ⟨rfl, hb⟩
    replace HB := Lib.hid (HB.out.trans (hb.mono HB.out.size))
    clear hb
    go_wp2_with fail
    go_ret
    exact ⟨rfl, HB.out⟩
  · have hx : ((h : Int) == 0) = false := by simp; omega
    have HTR := Lib.hid (truth_any ob h cb v w (by omega) hh hV)
    clear hV h0
    go_enter Try.func5, Try.ntmps5
    go_wp2_with fail
    refine HTR.out.mono ?_
    rintro e w1 ⟨hb, n, gZ, cZ, gL, t, f, hn1, hn2, rfl, hZ, hlb, htr, hlL, hcL⟩
    replace HB := Lib.hid (HB.out.trans (hb.mono HB.out.size))
    have HZ := Lib.hid (fun (V : World) (hV : Below w1.heap.size w1 V) => hZ.mono hV)
    have HLB := Lib.hid hlb
    have HT := Lib.hid htr
    have hz := (listB_spec hlb).2.2.1
    have HTREE := Lib.hid hz
    have HAL := Lib.hid (show AllR f n from fun i hi => (htr.up hz i hi).1)
    have HCL := Lib.hid (fun (V : World) (hV : Below w1.heap.size w1 V) => And.intro (Nat.lt_of_lt_of_le hlL hV.size) (fun (i : Nat) (hi : i < n) => (hV.cell (p := ⟨gL, i, none⟩) hlL).trans (hcL i hi)))
    have HW := Lib.hid (Below.refl w1.heap.size w1)
    clear hb hZ hlb htr hlL hcL hz HTR hx hh
    go_wp2_with fail
    refine (own_any (some ⟨gZ, 0, none⟩) n cZ f _ (by omega) (HZ.out _ HW.out)).mono ?_
    intro e w2 hp
    obtain ⟨hb, oA, cA, rfl, hs1, -⟩ := own_yes hp HLB.out
    replace HB := Lib.hid (HB.out.trans (hb.mono HB.out.size))
    replace HW := Lib.hid (HW.out.trans (hb.mono HW.out.size))
    have HS1 := Lib.hid hs1
    clear hb hp hs1
    go_wp2_with fail
    refine (losses_any (some ⟨gZ, 0, none⟩) n cZ f _ (by omega) (HZ.out _ HW.out)).mono ?_
    intro e w3 hp
    obtain ⟨hb, oC, cC, rfl, hs2, -⟩ := loss_all hp HLB.out HAL.out
    replace HB := Lib.hid (HB.out.trans (hb.mono HB.out.size))
    replace HW := Lib.hid (HW.out.trans (hb.mono HW.out.size))
    replace HS1 := Lib.hid (HS1.out.mono hb)
    have HS2 := Lib.hid hs2
    clear hb hp hs2
    go_wp2_with fail
    refine (wrong_any (some ⟨gZ, 0, none⟩) n cZ f _ (by omega) (HZ.out _ HW.out)).mono ?_
    intro e w4 hp
    obtain ⟨rfl, hb⟩ := wrong_all hp HLB.out HAL.out
    replace HB := Lib.hid (HB.out.trans (hb.mono HB.out.size))
    replace HW := Lib.hid (HW.out.trans (hb.mono HW.out.size))
    replace HS1 := Lib.hid (HS1.out.mono hb)
    replace HS2 := Lib.hid (HS2.out.mono hb)
    clear hb hp
    go_wp2_with fail
    go_loopw [11] (fun v11 wr => ∃ k : Nat, k ≤ n ∧ v11 = .int .i64 k ∧ Hid (Below w4.heap.size w4 wr)) (fun v11 _ => n - (intOf v11).toNat)
    case atStart => exact ⟨0, Nat.zero_le _, rfl, Lib.hid (Below.refl _ _)⟩
    case round =>
      obtain ⟨k, hk, rfl, HL⟩ := hrel
      by_cases hlt : k < n
      · have k0 : (0 : Int) ≤ (k : Int) := by omega
        have k1 : (k : Int) < (n : Int) := by omega
        obtain ⟨bA, oA9, hoA, hlA, a0, a1⟩ := (HS1.out.mono HL.out) k hlt
        obtain ⟨bC, oC9, hoC, hlC, b0, b1⟩ := (HS2.out.mono HL.out) k hlt
        subst hoA
        subst hoC
        have hcl := HCL.out _ (HW.out.trans (HL.out.mono HW.out.size))
        have cl := hcl.2 k hlt
        have ll := hcl.1
        have e1 := HT.out.own k hlt
        have e2 := HT.out.dn HTREE.out k hlt
        have e3 := dnF_in HTREE.out HAL.out k hlt
        have e4 := S_in HTREE.out hlt (HAL.out k hlt)
        have e5 : ownS (f k) = (f k).own := by unfold ownS; rw [if_pos (by omega)]
        simp only [e5] at a0 a1
        obtain ⟨o, ho⟩ : ∃ o, o = (f k).own := ⟨_, rfl⟩
        obtain ⟨dd, hdd⟩ : ∃ o, o = dnF f n k := ⟨_, rfl⟩
        obtain ⟨T, hTT⟩ : ∃ o, o = t k := ⟨_, rfl⟩
        rw [← ho] at e1 e4 a0 a1
        rw [← hdd] at e2 e3 b0 b1
        rw [← hTT] at e1 e2 cl
        obtain ⟨olo, ohi⟩ := o
        obtain ⟨dlo, dhi⟩ := dd
        simp only at e1 e2 e3 e4 a0 a1 b0 b1
        have f1 : decide (T < olo) = false := decide_eq_false (by omega)
        have f2 : decide (ohi < T) = false := decide_eq_false (by omega)
        have f3 : decide (T < dlo) = false := decide_eq_false (by omega)
        have f4 : decide (dhi < T) = false := decide_eq_false (by omega)
        have f5 : decide (dlo < olo) = false := decide_eq_false (by omega)
        have f6 : decide (ohi < dhi) = false := decide_eq_false (by omega)
        clear hcl e1 e2 e3 e4 e5 ho hdd hTT
        go_upto_region 12 with fail
        simp only [List.append]
        have q0 : ∀ V : Aft wr, V.val.cell? ⟨bA, oA9 + k * 2, none⟩ = some (.int .i64 olo) := fun V => (V.below.cell (p := ⟨bA, oA9 + k * 2, none⟩) hlA).trans a0
        have q1 : ∀ V : Aft wr, V.val.cell? ⟨bA, oA9 + k * 2 + 1, none⟩ = some (.int .i64 ohi) := fun V => (V.below.cell (p := ⟨bA, oA9 + k * 2 + 1, none⟩) hlA).trans a1
        have q2 : ∀ V : Aft wr, bA < V.val.heap.size := fun V => Nat.lt_of_lt_of_le hlA V.below.size
        have q3 : ∀ V : Aft wr, V.val.cell? ⟨bC, oC9 + k * 2, none⟩ = some (.int .i64 dlo) := fun V => (V.below.cell (p := ⟨bC, oC9 + k * 2, none⟩) hlC).trans b0
        have q4 : ∀ V : Aft wr, V.val.cell? ⟨bC, oC9 + k * 2 + 1, none⟩ = some (.int .i64 dhi) := fun V => (V.below.cell (p := ⟨bC, oC9 + k * 2 + 1, none⟩) hlC).trans b1
        have q5 : ∀ V : Aft wr, bC < V.val.heap.size := fun V => Nat.lt_of_lt_of_le hlC V.below.size
        have q6 : ∀ V : Aft wr, V.val.cell? ⟨gL, k, none⟩ = some (.int .i64 T) := fun V => (V.below.cell (p := ⟨gL, k, none⟩) ll).trans cl
        have q7 : ∀ V : Aft wr, gL < V.val.heap.size := fun V => Nat.lt_of_lt_of_le ll V.below.size
        clear a0 a1 b0 b1 cl hlA hlC ll
        refine wp_region_aft (by kernel_rfl) (by kernel_rfl) ?_
        repeat (go_big_quiet_step (fail))
        refine wpQuiet_nil ?_
        intro WA
        obtain ⟨wy, hwy⟩ : ∃ X, X = WA.val := ⟨_, rfl⟩
        have hby := WA.below
        rw [← hwy] at hby ⊢
        clear hwy WA
        replace HL := Lib.hid (HL.out.trans (hby.mono HL.out.size))
        clear q0 q1 q2 q3 q4 q5 q6 q7 hby
        go_wp2_with fail
        go_roundw
        case rel => exact ⟨k + 1, by omega, by go_num, HL⟩
        case measure => simp [intOf]; omega
      · obtain rfl : n = k := by omega
        replace HB := Lib.hid (HB.out.trans (HL.out.mono HB.out.size))
        go_wp2_with fail
        refine (awake_any _).mono ?_
        rintro e wz ⟨rfl, hb⟩
        replace HB := Lib.hid (HB.out.trans (hb.mono HB.out.size))
        clear hb
        go_wp2_with fail
        go_ret
        exact ⟨rfl, HB.out⟩
end Go.Proofs.Ytipnaeijbbbdoaa
