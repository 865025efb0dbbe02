/- StepTrue returns true. -/
import Derived.Test.YtpognhnmkjpipaaDoorT3
namespace Go.Proofs.YtpognhnmkjpipaaDoor
open Go.RowKit
/-- what StepTrue keeps -/
structure LT (t : Tst) (oa : Option Addr) (ca : Nat) (ob : Option Addr) (cb : Nat) (l : Nat → Int) (g7 g9 : Nat) (w W : World) : Prop where
  low : Below w.heap.size w W
  hT : TB t oa ca ob cb g7 W
  hL : Box g9 (cells10 l) 42 W
  mem : Mem t oa ob W
theorem LT.on {t : Tst} {oa : Option Addr} {ca : Nat} {ob : Option Addr} {cb : Nat} {l : Nat → Int} {g7 g9 : Nat} {w A B : World} (h : LT t oa ca ob cb l g7 g9 w A) (hb : Below A.heap.size A B) : LT t oa ca ob cb l g7 g9 w B :=
  ⟨h.low.trans (hb.mono h.low.size), h.hT.below hb, h.hL.below hb, h.mem.on hb⟩
set_option maxRecDepth 100000 in
set_option maxHeartbeats 40000000 in
theorem stepTrue_any (a b : Nat) (ka : Option Addr) (kn kc : Nat) (q : Nat → Nat) (w : World) (hT : TabAt 1 Lib.deBruijn64tab w) (h1 : 1 < w.heap.size) (ha : a < 256) (hb : b < 256) (hQ : U16sAt w ka kn q) (hkn2 : kn ≤ 9223372036854775807) :
    Calls Tryd.prog 5 #[.int .u8 (a : Nat), .int .u8 (b : Nat), .slice ka kn kc] w fun e w' => e = .returned (.bool true) ∧ Below w.heap.size w w' := by
  have HT := Lib.hid hT
  have HQ := Lib.hid hQ
  clear hT hQ
  go_enter Tryd.func5, Tryd.ntmps5
  by_cases hk0 : kn = 0
  · have hd : ((kn : Int) == 0) = true := by subst hk0; rfl
    go_wp2_with fail
    refine (awake_any _ HT.out h1).mono ?_
    rintro e X1 ⟨rfl, hb⟩
    go_wp2_with fail
    go_ret
    exact ⟨rfl, hb⟩
  · have hd : ((kn : Int) == 0) = false := by simp; omega
    go_wp2_with fail
    refine (truth_any a b ka kn kc q _ ha hb (by omega) hkn2 HQ.out).mono ?_
    rintro e X1 ⟨⟨t, x, l, oa, ca, ob, cb, rfl, hv, ht, hU, hS⟩, hbl⟩
    have hM := Lib.hid (show Mem t oa ob X1 from ⟨hU, hS, fun j hj => (hbl.cell (p := ⟨1, j, none⟩) h1).trans (HT.out j hj), Nat.lt_of_lt_of_le h1 hbl.size⟩)
    have HV := Lib.hid hv
    have HTR := Lib.hid ht
    have hk := Tst.ok hv
    have hn2 := hk.n2
    have hm2 := hk.m1
    have h10 := pow_ten hn2
    have hxl := ht.lt
    obtain ⟨hcl, hsl⟩ := res_lt (t := t) hn2
    obtain ⟨e0, e1, e2, e3, e4, e5⟩ := true_law hv ht
    have HLW := Lib.hid e5
    have HB := Lib.hid hbl
    clear hU hS hv ht e5 hk HT HQ hd hk0 hbl
    dsimp only [cells10]
    go_upto_region 4 with fail
    have hI0 : LT t oa ca ob cb l X1.heap.size (X1.heap.size + 1) w ((X1.alloc (.cells #[.slice oa t.n ca, .int .i64 t.leaks, .int .i64 t.least, .slice ob t.m cb] 25)).alloc (.cells (cells10 l) 42)) := by
      have hb2 : Below X1.heap.size X1 ((X1.alloc (.cells #[.slice oa t.n ca, .int .i64 t.leaks, .int .i64 t.least, .slice ob t.m cb] 25)).alloc (.cells (cells10 l) 42)) := (by repeat' (first | exact Below.refl _ _ | assumption | apply below_drewN | apply Below.drew | (refine Below.alloc ?_ ?_ _) | (refine Below.setCell ?_ ?_ _) | (simp; done) | (simp; omega) | omega))
      exact ⟨HB.out.trans (hb2.mono HB.out.size), (Box.new _ 25 X1 rfl).old _, Box.new _ 42 _ (by simp), hM.out.on hb2⟩
    dsimp only [cells10] at hI0
    obtain ⟨X2, hW⟩ : ∃ X, X = ((X1.alloc (.cells #[.slice oa t.n ca, .int .i64 t.leaks, .int .i64 t.least, .slice ob t.m cb] 25)).alloc (.cells #[.int .i64 (l 0), .int .i64 (l 1), .int .i64 (l 2), .int .i64 (l 3), .int .i64 (l 4), .int .i64 (l 5), .int .i64 (l 6), .int .i64 (l 7), .int .i64 (l 8), .int .i64 (l 9)] 42)) := ⟨_, rfl⟩
    rw [← hW] at hI0 ⊢
    clear hW
    obtain ⟨g7, hG7⟩ : ∃ g, g = X1.heap.size := ⟨_, rfl⟩
    obtain ⟨g9, hG9⟩ : ∃ g, g = X1.heap.size + 1 := ⟨_, rfl⟩
    rw [← hG9] at hI0 ⊢
    rw [← hG7] at hI0 ⊢
    clear hG7 hG9 hM HB
    have I0 := Lib.hid hI0
    clear hI0
    obtain ⟨c0, c1, c2, c3, c4⟩ := TB.cells I0.out.hT
    have E0 := Lib.hid e0
    have V1 := i64_andNot_nat x t.canR (by omega) (by omega)
    have V2 := i64_andNot_nat t.surelyR x (by omega) (by omega)
    rw [e1] at V1
    rw [e2] at V2
    have HV1 := Lib.hid V1
    have HV2 := Lib.hid V2
    have E3 := Lib.hid e3
    have E4 := Lib.hid e4
    clear V1 V2 e0 e1 e2 e3 e4
    go_wp2_with fail
    refine (suspects_any t oa ca ob cb X2 (by omega) (by omega) I0.out.mem.u I0.out.mem.s I0.out.mem.T I0.out.mem.l).mono ?_
    rintro e X3 ⟨rfl, hb3⟩
    have I1 := Lib.hid (I0.out.on hb3)
    clear hb3 I0 c0 c1 c2 c3 c4
    obtain ⟨c0, c1, c2, c3, c4⟩ := TB.cells I1.out.hT
    go_wp2_with fail
    refine (sound_any t oa ca ob cb X3 (by omega) (by omega) I1.out.mem.u I1.out.mem.s I1.out.mem.T I1.out.mem.l).mono ?_
    rintro e X4 ⟨rfl, hb4⟩
    have I3 := Lib.hid (I1.out.on hb4)
    clear hb4 I1 c0 c1 c2 c3 c4
    rw [E0.out]
    obtain ⟨cn, hcn⟩ : ∃ c, c = t.canR := ⟨_, rfl⟩
    have HCN := Lib.hid hcn
    have V1 := HV1.out
    rw [← hcn] at V1 hcl ⊢
    clear hcn
    have V2 := HV2.out
    have hE3 := E3.out
    have hE4 := E4.out
    go_upto_region 6 with fail
    go_cut [11, 13, 73] (fun v11 v13 v73 wx => v73 = .bool false ∧ wx = X4)
    case first =>
      cases hso : t.soundR
      · rw [hso] at hE3
        have hx0 : ((x : Int) == 0) = false := by
          have : x ≠ 0 := fun h9 => by cases hE3 h9
          simp; omega
        clear hE3 hE4 hso
        go_wp2_with fail
        go_meet
        exact ⟨rfl, rfl⟩
      · have hs0 := hE4 hso
        rw [hs0] at V2 ⊢
        clear hE3 hE4 hso
        by_cases hx : x = 0
        · have hx0 : ((x : Int) == 0) = true := by subst hx; rfl
          clear hx
          go_wp2_with fail
          go_meet
          exact ⟨rfl, rfl⟩
        · have hx0 : ((x : Int) == 0) = false := by simp; omega
          go_wp2_with fail
          go_meet
          exact ⟨rfl, rfl⟩
    case rest =>
      obtain ⟨rfl, rfl⟩ := hcut
      clear V1 V2 hE3 hE4
      go_wp2_with fail
      go_loopw [15] (fun v15 wr => ∃ i : Nat, i ≤ t.n ∧ v15 = .int .i64 (i : Nat) ∧ LT t oa ca ob cb l g7 g9 w wr) (fun v15 _ => t.n - (intOf v15).toNat)
      case atStart => exact ⟨0, Nat.zero_le _, rfl, I3.out⟩
      case round =>
        obtain ⟨i, hi, rfl, hI⟩ := hrel
        have I4 := Lib.hid hI
        clear hI
        obtain ⟨c0, c1, c2, c3, c4⟩ := TB.cells I4.out.hT
        by_cases hin : i < t.n
        · have hd3 : decide (i < t.n) = true := decide_eq_true hin
          have hd4 : decide ((i : Int) < (t.n : Int)) = true := decide_eq_true (by omega)
          go_wp2_with fail
          refine (leak_any t oa ca ob cb (i : Nat) wr (by omega) (by omega) I4.out.mem.u I4.out.mem.s I4.out.mem.T I4.out.mem.l).mono ?_
          rintro e X4 ⟨rfl, hb4⟩
          have I5 := Lib.hid (I4.out.on hb4)
          clear hb4 I4 c0 c1 c2 c3 c4 hd3 hd4
          obtain ⟨k1, k2, k3⟩ := HLW.out i hin
          obtain ⟨er, her⟩ : ∃ e, e = t.leakErr i := ⟨_, rfl⟩
          obtain ⟨rs, hrs⟩ : ∃ e, e = t.leakR i := ⟨_, rfl⟩
          rw [← her] at k1 k2 k3 ⊢
          rw [← hrs] at k1 k2 ⊢
          rw [← HCN.out] at k2 k3
          clear her hrs
          have hi10 : i < 10 := by omega
          obtain ⟨lk, hlk⟩ : ∃ e, e = l i := ⟨_, rfl⟩
          rw [← hlk] at k1
          have HLK := Lib.hid hlk
          clear hlk
          have K1 := Lib.hid k1
          have K2 := Lib.hid k2
          have K3 := Lib.hid k3
          clear k1 k2 k3
          go_upto_region 12 with fail
          have hI6 := I5.out.on (below_alloc1 X4 (.cells #[.int .i64 rs.lo, .int .i64 rs.hi] 37))
          have zR := Box.new (g := X4.heap.size) #[.int .i64 rs.lo, .int .i64 rs.hi] 37 X4 rfl
          obtain ⟨X5, hW⟩ : ∃ X, X = X4.alloc (.cells #[.int .i64 rs.lo, .int .i64 rs.hi] 37) := ⟨_, rfl⟩
          rw [← hW] at hI6 zR ⊢
          clear hW
          obtain ⟨gR, hG⟩ : ∃ G, G = X4.heap.size := ⟨_, rfl⟩
          rw [← hG] at zR ⊢
          clear hG
          have f0 : ∀ W : Aft X5, W.val.cell? ⟨g9, i, none⟩ = some (.int .i64 lk) := fun W => by rw [HLK.out]; exact (hI6.hL.below W.below).cell i (cells10_get hi10)
          have f1 : ∀ W : Aft X5, W.val.cell? ⟨gR, 0, none⟩ = some (.int .i64 rs.lo) := fun W => (zR.below W.below).cell 0 rfl
          have f2 : ∀ W : Aft X5, W.val.cell? ⟨gR, 1, none⟩ = some (.int .i64 rs.hi) := fun W => (zR.below W.below).cell 1 rfl
          have f3 : ∀ W : Aft X5, W.val.cell? ⟨g7, 2, none⟩ = some (.int .i64 t.least) := fun W => (hI6.hT.below W.below).cell 2 rfl
          have I6 := Lib.hid hI6
          clear hI6 zR I5
          have hi0 : (0 : Int) ≤ (i : Int) := by omega
          have hi1 : (i : Int) < 10 := by omega
          have HHX := Lib.hid (fun W => has_b x i W (by omega) (by omega))
          have HHC := Lib.hid (fun W => has_b cn i W (by omega) (by omega))
          cases hb : hasB x i
          · rw [hb] at HHX
            clear hb K1
            by_cases he : er = 0
            · obtain ⟨q1, q2, q3⟩ := K2.out he
              rw [q1] at HHC
              subst he
              have d3 : decide (rs.lo < t.least) = false := decide_eq_false (by omega)
              have d4 : decide (rs.hi < rs.lo) = false := decide_eq_false (by omega)
              clear K2 K3 q1
              refine wp_region_aft (by kernel_rfl) (by kernel_rfl) ?_
              repeat (go_big_quiet_step ((go_at_call 21; first | exact aft_call (HHX.out _) | exact aft_call (HHC.out _))))
              refine wpQuiet_nil ?_
              intro WA
              obtain ⟨wy, hwy⟩ : ∃ X, X = WA.val := ⟨_, rfl⟩
              have hby := WA.below
              rw [← hwy] at hby ⊢
              clear hwy WA
              have I7 := Lib.hid (I6.out.on hby)
              clear hby
              go_wp2_with fail
              go_roundw
              case rel => exact ⟨i + 1, by omega, by go_num, I7.out⟩
              case measure => simp [intOf]; omega
            · obtain ⟨q1, q2⟩ := K3.out he
              rw [q2] at HHC
              subst q1
              clear K2 K3 q2 he
              refine wp_region_aft (by kernel_rfl) (by kernel_rfl) ?_
              repeat (go_big_quiet_step ((go_at_call 21; first | exact aft_call (HHX.out _) | exact aft_call (HHC.out _))))
              refine wpQuiet_nil ?_
              intro WA
              obtain ⟨wy, hwy⟩ : ∃ X, X = WA.val := ⟨_, rfl⟩
              have hby := WA.below
              rw [← hwy] at hby ⊢
              clear hwy WA
              have I7 := Lib.hid (I6.out.on hby)
              clear hby
              go_wp2_with fail
              go_roundw
              case rel => exact ⟨i + 1, by omega, by go_num, I7.out⟩
              case measure => simp [intOf]; omega
          · rw [hb] at HHX
            obtain ⟨he, q4, q5⟩ := K1.out hb
            clear hb K1
            obtain ⟨q1, q2, q3⟩ := K2.out he
            rw [q1] at HHC
            subst he
            have d1 : decide (lk < rs.lo) = false := decide_eq_false (by omega)
            have d2 : decide (rs.hi < lk) = false := decide_eq_false (by omega)
            have d3 : decide (rs.lo < t.least) = false := decide_eq_false (by omega)
            have d4 : decide (rs.hi < rs.lo) = false := decide_eq_false (by omega)
            clear K2 K3 q1
            refine wp_region_aft (by kernel_rfl) (by kernel_rfl) ?_
            repeat (go_big_quiet_step ((go_at_call 21; first | exact aft_call (HHX.out _) | exact aft_call (HHC.out _))))
            refine wpQuiet_nil ?_
            intro WA
            obtain ⟨wy, hwy⟩ : ∃ X, X = WA.val := ⟨_, rfl⟩
            have hby := WA.below
            rw [← hwy] at hby ⊢
            clear hwy WA
            have I7 := Lib.hid (I6.out.on hby)
            clear hby
            go_wp2_with fail
            go_roundw
            case rel => exact ⟨i + 1, by omega, by go_num, I7.out⟩
            case measure => simp [intOf]; omega
        · have hd3 : decide (i < t.n) = false := decide_eq_false hin
          have hd4 : decide ((i : Int) < (t.n : Int)) = false := decide_eq_false (by omega)
          go_wp2_with fail
          refine (awake_any _ I4.out.mem.T I4.out.mem.l).mono ?_
          rintro e X2 ⟨rfl, hb⟩
          have I9 := Lib.hid (I4.out.on hb)
          clear hb
          go_wp2_with fail
          go_ret
          exact ⟨rfl, I9.out.low⟩
end Go.Proofs.YtpognhnmkjpipaaDoor
