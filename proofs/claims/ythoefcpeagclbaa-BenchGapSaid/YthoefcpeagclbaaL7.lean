/- The walk of BenchGap. -/
import Derived.Test.YthoefcpeagclbaaLv
namespace Go.Proofs.Ythoefcpeagclbaa
open Go.RowKit
set_option maxRecDepth 100000 in
set_option maxHeartbeats 16000000 in
theorem gap_of (b : Bnch) (x : Ctch) (oa : Option Addr) (cap : Nat) (or : Option Addr) (m cr : Nat) (r : Nat → Spn) (i k : Int) (t : Nat) (w : World) (hcap : b.n ≤ cap) (hT : MarksAt w oa b.n b.t) (hm : m ≤ 9223372036854775807) (hR : SpnsAt w or m r) (ht : t < 256) :
    Calls Try.prog 7 #[b.val oa cap, x.val, .slice or m cr, .int .i64 i, .int .i64 k, .int .u8 (t : Nat)] w (TrueEnd w) := by
  have HT := Lib.hid hT
  have HR := Lib.hid hR
  have HM := Lib.hid hm
  clear hT hR hm
  obtain ⟨iR, hiR, hzR0, hzR1, hzR2⟩ := info_parts (P := Try.prog) (e := 24) (z := .agg #[.int .i64 0, .int .i64 0]) (size := 2) (bytes := 16) (by kernel_rfl)
  go_enter Try.func7, Try.ntmps7
  go_wp2_with fail
  have hL : Lv w b oa cap x (two 26 b oa cap x w) := ⟨two_below 26 b oa cap x w, two_bench 26 b oa cap x w, two_catch 26 b oa cap x w⟩
  obtain ⟨W, hW⟩ : ∃ X, X = (two 26 b oa cap x w) := ⟨_, rfl⟩
  rw [← hW] at hL
  simp only [two] at hW
  rw [← hW]
  clear hW
  have L_0 := Lib.hid hL
  clear hL
  refine (large_any b oa cap or m cr r 4611686018427387904 _ (HR.out.mono L_0.out.low) HM.out).mono ?_
  rintro e w1 ⟨rfl, hb1⟩
  have L_1 := Lib.hid (L_0.out.below hb1)
  clear L_0 hb1
  rcases hl : largeR b m r 4611686018427387904
  case true =>
    clear hl
    go_wp2_with fail
    refine (awake_any _).mono ?_
    rintro e wz ⟨rfl, hbz⟩
    go_wp2
    go_ret
    exact ⟨rfl, L_1.out.low.trans (hbz.mono L_1.out.low.size)⟩
  have hn := (large_no hl).1
  have hm := (large_no hl).2.1
  clear hl
  obtain ⟨b0, b1, b2, b3, b4, b5, b6, b7⟩ := BB.cells (b := b) L_1.out.B
  obtain ⟨c0, c1, c2, c3, c4, c5, c6⟩ := CB.cells (x := x) L_1.out.X
  go_wp2_with fail
  refine (Gap_any b x oa cap or m cr r i k _ (by omega) hcap (HT.out.mono L_1.out.low) (by omega) (HR.out.mono L_1.out.low)).mono ?_
  rintro e w2 ⟨rfl, hb2⟩
  have TF := Lib.hid (testR_form b x m r)
  obtain ⟨gs, hgs⟩ : ∃ y, y = gapS (b.testR x m r).1 (b.testR x m r).2 m r i k := ⟨_, rfl⟩
  obtain ⟨ge, hge⟩ : ∃ y, y = gapE (b.testR x m r).2 m i k := ⟨_, rfl⟩
  rw [← hgs, ← hge]
  have HGS := Lib.hid hgs
  have HGE := Lib.hid hge
  clear hgs hge
  clear b0 b1 b2 b3 b4 b5 b6 b7 c0 c1 c2 c3 c4 c5 c6
  have hbE := hb2.alloc hb2.size (.cells #[.int .i64 gs.lo, .int .i64 gs.hi] 24)
  have T9 := Box.new (g := w2.heap.size) #[.int .i64 gs.lo, .int .i64 gs.hi] 24 w2 rfl
  have L_2 := Lib.hid (L_1.out.below hbE)
  clear L_1 hbE
  clear hb2
  go_upto_region 4 with fail
  obtain ⟨g13, hg⟩ : ∃ n, n = w2.heap.size := ⟨_, rfl⟩
  obtain ⟨W2, hW⟩ : ∃ X, X = w2.alloc (.cells #[.int .i64 gs.lo, .int .i64 gs.hi] 24) := ⟨_, rfl⟩
  rw [← hW] at L_2 T9 ⊢
  rw [← hg] at T9 ⊢
  clear hW hg
  have K13_0 := Lib.hid T9
  clear T9
  obtain ⟨b0, b1, b2, b3, b4, b5, b6, b7⟩ := BB.cells (b := b) L_2.out.B
  obtain ⟨c0, c1, c2, c3, c4, c5, c6⟩ := CB.cells (x := x) L_2.out.X
  go_wp2_with fail
  refine (Errors_any b x oa cap or m cr r _ (by omega) hcap (HT.out.mono L_2.out.low) (by omega) (HR.out.mono L_2.out.low)).mono ?_
  rintro e w3 ⟨o1, p1, rfl, hS1, hb3⟩
  clear b0 b1 b2 b3 b4 b5 b6 b7 c0 c1 c2 c3 c4 c5 c6
  have L_3 := Lib.hid (L_2.out.below hb3)
  have K13_1 := Lib.hid (K13_0.out.below hb3)
  clear L_2 K13_0 hb3
  have HS1_0 := Lib.hid hS1
  clear hS1
  by_cases hgz : ge = 0
  case neg =>
    have hne : (ge != 0) = true := by simpa using hgz
    have hgs0 : gs = ⟨0, 0⟩ := by
      rw [HGS.out]; unfold gapS; rw [if_neg (by rw [← HGE.out]; exact hgz)]
    obtain ⟨p0, p1'⟩ : gs.lo = 0 ∧ gs.hi = 0 := by rw [hgs0]; exact ⟨rfl, rfl⟩
    have q0 := K13_1.out.cell 0 rfl
    have q1 := K13_1.out.cell 1 rfl
    simp only [List.getElem_toArray, List.getElem_cons_zero, List.getElem_cons_succ, p0, p1'] at q0 q1
    generalize cnt (b.testR x m r).2 m = ce
    by_cases hte : (b.testR x m r).2 = 0
    · have hg2 : ge = 2 := by
        have := HGE.out
        rw [hte] at this
        unfold gapE at this
        rw [if_pos rfl] at this
        split at this
        · exact absurd this hgz
        · exact this
      rw [hte, hg2]
      clear hte hg2 hgz hne hgs0 p0 p1' HGS HGE TF HS1_0 K13_1
      go_wp2_with fail
      refine (awake_any _).mono ?_
      rintro e wz ⟨rfl, hbz⟩
      go_wp2
      go_ret
      exact ⟨rfl, L_3.out.low.trans (hbz.mono L_3.out.low.size)⟩
    · have hg2 : ge = (b.testR x m r).2 := by
        have := HGE.out
        rw [gapE_ne hte] at this
        exact this
      rw [← hg2]
      clear hte hg2 hgz hgs0 p0 p1' HGS HGE TF HS1_0 K13_1
      go_wp2_with fail
      refine (awake_any _).mono ?_
      rintro e wz ⟨rfl, hbz⟩
      go_wp2
      go_ret
      exact ⟨rfl, L_3.out.low.trans (hbz.mono L_3.out.low.size)⟩
  have hte : (b.testR x m r).2 = 0 := by
    rcases Classical.em ((b.testR x m r).2 = 0) with h9 | h9
    · exact h9
    · have := HGE.out
      rw [gapE_ne h9] at this
      omega
  have hin : gapIn m i k = true := by
    have := HGE.out
    rw [hte, hgz] at this
    cases hin : gapIn m i k
    · rw [gapE_no hin] at this; omega
    · rfl
  have hok := testR_ok hte
  obtain ⟨v, hv⟩ : ∃ v, v = (b.testR x m r).1 := ⟨_, rfl⟩
  rw [← hv] at hok
  have hgs := HGS.out
  rw [hte, ← hv, gapS_yes hin] at hgs
  rw [hte, ← hv, cnt_zero] at HS1_0
  rw [hte, cnt_zero, hgz]
  obtain ⟨y1, y2, y3, hm16, hrow⟩ := hok
  have HROW := Lib.hid hrow
  have HTE := Lib.hid hte
  have HV := Lib.hid hv
  have HIN := Lib.hid hin
  obtain ⟨i0, i1, k0, k1, hik⟩ := gapIn_all hin
  obtain ⟨ni, rfl⟩ : ∃ n : Nat, i = n := ⟨i.toNat, by omega⟩
  obtain ⟨nk, rfl⟩ : ∃ n : Nat, k = n := ⟨k.toNat, by omega⟩
  have hni : ni < m := by omega
  have hnk : nk < m := by omega
  have hnn : ni ≠ nk := by omega
  clear hte hv hgz HGS HGE TF hin hrow
  have hgs1 : gs.lo ≤ gs.hi := by
    rw [hgs]; exact gap_span y1 y2 (by have a := HROW.out ni hni; have c := HROW.out nk hnk; simp only [gapLo, gapHi, Int.toNat_natCast]; omega)
  have hgs2 : (errR v (r ni)).lo - (errR v (r nk)).hi ≤ gs.lo := by
    rw [hgs]; simp only [gapOf, gapLo, Int.toNat_natCast]; exact gap_low y1 y2 (HROW.out ni hni).1 (by have := HROW.out nk hnk; omega)
  have hgs3 : gs.hi ≤ (errR v (r ni)).hi - (errR v (r nk)).lo := by
    rw [hgs]; simp only [gapOf, gapHi, Int.toNat_natCast]; exact gap_high y1 y2 (by have := HROW.out ni hni; omega) (HROW.out nk hnk).1
  have z0 : ¬ (ni : Int) < 0 := by omega
  have z1 : ¬ (nk : Int) < 0 := by omega
  have z2 : ¬ (m : Int) ≤ (ni : Int) := by omega
  have z3 : ¬ (m : Int) ≤ (nk : Int) := by omega
  have z4 : decide (m ≤ ni) = false := by simpa using hni
  have z5 : decide (m ≤ nk) = false := by simpa using hnk
  have HGG := Lib.hid hgs
  clear hgs
  obtain ⟨b0, b1, b2, b3, b4, b5, b6, b7⟩ := BB.cells (b := b) L_3.out.B
  obtain ⟨c0, c1, c2, c3, c4, c5, c6⟩ := CB.cells (x := x) L_3.out.X
  go_wp2_with fail
  refine (Gap_any b x oa cap or m cr r nk ni _ (by omega) hcap (HT.out.mono L_3.out.low) (by omega) (HR.out.mono L_3.out.low)).mono ?_
  rintro e w4 ⟨rfl, hb4⟩
  have hin2 : gapIn m nk ni = true := by simp [gapIn, withinB]; omega
  rw [HTE.out, ← HV.out, gapE_yes hin2, gapS_yes hin2, gap_turn, ← HGG.out]
  dsimp only
  clear hin2 z0 z1 z2 z3 z4 z5
  clear b0 b1 b2 b3 b4 b5 b6 b7 c0 c1 c2 c3 c4 c5 c6
  have hbE := hb4.alloc hb4.size (.cells #[.int .i64 (-gs.hi), .int .i64 (-gs.lo)] 24)
  have T9 := Box.new (g := w4.heap.size) #[.int .i64 (-gs.hi), .int .i64 (-gs.lo)] 24 w4 rfl
  have L_4 := Lib.hid (L_3.out.below hbE)
  have K13_2 := Lib.hid (K13_1.out.below hbE)
  have HS1_1 := Lib.hid (HS1_0.out.mono hbE)
  clear L_3 K13_1 HS1_0 hbE
  clear hb4
  go_upto_region 10 with fail
  obtain ⟨g17, hg⟩ : ∃ n, n = w4.heap.size := ⟨_, rfl⟩
  obtain ⟨W4, hW⟩ : ∃ X, X = w4.alloc (.cells #[.int .i64 (-gs.hi), .int .i64 (-gs.lo)] 24) := ⟨_, rfl⟩
  rw [← hW] at L_4 K13_2 HS1_1 T9 ⊢
  rw [← hg] at T9 ⊢
  clear hW hg
  have K17_0 := Lib.hid T9
  clear T9
  have BA := err_bd y1 y2 y3 (s := r ni) (by have := HROW.out ni hni; omega) (by have := HROW.out ni hni; omega)
  have BC := err_bd y1 y2 y3 (s := r nk) (by have := HROW.out nk hnk; omega) (by have := HROW.out nk hnk; omega)
  obtain ⟨b6, o6, rfl, l6, -, -⟩ := HS1_1.out ni hni
  obtain ⟨bx, ox, ex, -, a0, a1⟩ := HS1_1.out ni hni
  cases ex
  obtain ⟨bx, ox, ex, -, c0, c1⟩ := HS1_1.out nk hnk
  cases ex
  obtain ⟨A, hA⟩ : ∃ y, y = (errR v (r ni)).lo := ⟨_, rfl⟩
  obtain ⟨A', hA'⟩ : ∃ y, y = (errR v (r ni)).hi := ⟨_, rfl⟩
  obtain ⟨C, hC⟩ : ∃ y, y = (errR v (r nk)).lo := ⟨_, rfl⟩
  obtain ⟨C', hC'⟩ : ∃ y, y = (errR v (r nk)).hi := ⟨_, rfl⟩
  rw [← hA, ← hC'] at hgs2
  rw [← hA', ← hC] at hgs3
  rw [← hA, ← hA'] at BA
  rw [← hC, ← hC'] at BC
  dsimp only at a0 a1 c0 c1
  rw [← hA] at a0
  rw [← hA'] at a1
  rw [← hC] at c0
  rw [← hC'] at c1
  clear hA hA' hC hC'
  have f0 : ∀ W : Aft W4, W.val.cell? ⟨b6, o6 + ni * 2, none⟩ = some (.int .i64 A) := fun W => (W.below.cell (p := ⟨b6, o6 + ni * 2, none⟩) l6).trans a0
  have f1 : ∀ W : Aft W4, W.val.cell? ⟨b6, o6 + ni * 2 + 1, none⟩ = some (.int .i64 A') := fun W => (W.below.cell (p := ⟨b6, o6 + ni * 2 + 1, none⟩) l6).trans a1
  have f2 : ∀ W : Aft W4, W.val.cell? ⟨b6, o6 + nk * 2, none⟩ = some (.int .i64 C) := fun W => (W.below.cell (p := ⟨b6, o6 + nk * 2, none⟩) l6).trans c0
  have f3 : ∀ W : Aft W4, W.val.cell? ⟨b6, o6 + nk * 2 + 1, none⟩ = some (.int .i64 C') := fun W => (W.below.cell (p := ⟨b6, o6 + nk * 2 + 1, none⟩) l6).trans c1
  have f4 : ∀ W : Aft W4, W.val.cell? ⟨g13, 0, none⟩ = some (.int .i64 gs.lo) := fun W => (K13_2.out.below W.below).cell 0 rfl
  have f5 : ∀ W : Aft W4, W.val.cell? ⟨g13, 1, none⟩ = some (.int .i64 gs.hi) := fun W => (K13_2.out.below W.below).cell 1 rfl
  have f6 : ∀ W : Aft W4, W.val.cell? ⟨g17, 0, none⟩ = some (.int .i64 (-gs.hi)) := fun W => (K17_0.out.below W.below).cell 0 rfl
  have f7 : ∀ W : Aft W4, W.val.cell? ⟨g17, 1, none⟩ = some (.int .i64 (-gs.lo)) := fun W => (K17_0.out.below W.below).cell 1 rfl
  have V1 : IntKind.i64.wrap (-gs.hi) = -gs.hi := IntWalk.i64_in _ (by omega)
  have V2 : IntKind.i64.wrap (-gs.lo) = -gs.lo := IntWalk.i64_in _ (by omega)
  have V3 : IntKind.i64.wrap (A - C') = A - C' := IntWalk.i64_in _ (by omega)
  have V4 : IntKind.i64.wrap (A' - C) = A' - C := IntWalk.i64_in _ (by omega)
  have z0 : decide (gs.hi < gs.lo) = false := by simp; omega
  have z1 : decide (gs.lo < A - C') = false := by simp; omega
  have z2 : decide (A' - C < gs.hi) = false := by simp; omega
  have q0 : (0 : Int) ≤ (ni : Int) := by omega
  have q1 : (ni : Int) < (m : Int) := by omega
  have q2 : (0 : Int) ≤ (nk : Int) := by omega
  have q3 : (nk : Int) < (m : Int) := by omega
  have HC := Lib.hid (show ∀ W : Aft W4, Calls Try.prog 31 #[.int .i64 (-gs.hi), .int .i64 (-gs.lo)] W.val fun e w' => e = .returned (Spn.val ⟨-gs.hi, -gs.lo⟩) ∧ Below W.val.heap.size W.val w' from fun W => span_any _ _ _)
  clear a0 a1 c0 c1 hgs1 hgs2 hgs3 BA BC
  go_wp2_with fail
  refine wp_region_aft (by kernel_rfl) (by kernel_rfl) ?_
  repeat (go_big_quiet_step ((go_at_call 31; exact aft_call (HC.out _))))
  refine wpQuiet_nil ?_
  intro WA
  obtain ⟨wy, hwy⟩ : ∃ X, X = WA.val := ⟨_, rfl⟩
  have hby := WA.below
  rw [← hwy] at hby ⊢
  clear hwy WA
  clear f0 f1 f2 f3 f4 f5 f6 f7 V1 V2 V3 V4 HC
  clear K17_0
  have L_5 := Lib.hid (L_4.out.below hby)
  have K13_3 := Lib.hid (K13_2.out.below hby)
  have HS1_2 := Lib.hid (HS1_1.out.mono hby)
  clear L_4 K13_2 HS1_1 hby
  obtain ⟨W5, hW⟩ : ∃ X, X = wy := ⟨_, rfl⟩
  rw [← hW] at L_5 K13_3 HS1_2  ⊢
  clear hW
  go_wp2_with fail
  clear z0 z1 z2
  go_loopw [19, 20] (fun v19 v20 wr => ∃ j : Nat, j ≤ m ∧ v20 = .int .i64 j ∧ wr.ownsRow W5.heap.size 24 2 v19 j (spanNews j (fun z => r (turnI m t z))) ∧ Below W5.heap.size W5 wr) (fun _ i _ => m - (intOf i).toNat)
  case atStart => exact ⟨0, Nat.zero_le _, rfl, owns_none, Below.refl _ _⟩
  case round =>
    obtain ⟨j, hj, rfl, hown, hb⟩ := hrel
    by_cases hlt : j < m
    · have hd0 : decide (j < m) = true := by simpa using hlt
      obtain ⟨z, hz⟩ : ∃ z, z = turnI m t j := ⟨_, rfl⟩
      have hzm : z < m := by rw [hz]; exact Nat.mod_lt _ (by omega)
      have hmk : ((j : Int) + (t : Int)) % (m : Int) = (z : Int) := by rw [hz]; unfold turnI; simp
      have hmk2 : ((j : Int) + (t : Int)).tmod (m : Int) = (z : Int) := by rw [Int.tmod_eq_emod_of_nonneg (by omega)]; exact hmk
      have hm0 : (m : Int) ≠ 0 := by omega
      have hz0 : (0 : Int) ≤ (z : Int) := by omega
      have hz1 : (z : Int) < (m : Int) := by omega
      have HZ := Lib.hid hz
      clear hz
      obtain ⟨bb, off, rfl, hlt0, c0, c1⟩ := (HR.out.mono (L_5.out.low.trans (hb.mono L_5.out.low.size))) z hzm
      obtain ⟨oS, cS, rfl, -⟩ := owns_form hown
      have hs1 := hb.size
      go_wp2_with (at_builtin; refine wpList_append_gen rfl (.tmp 164) (.tmp 175) _ rfl W5.heap.size 24 iR _ 2 16 Try.underlying36 hiR hzR0 hzR1 hzR2 rfl (by omega) (.slice oS j cS) j (spanNews j (fun z => r (turnI m t z))) rfl (some ⟨wr.heap.size, 0, none⟩) 1 1 [.int .i64 (r z).lo, .int .i64 (r z).hi] rfl (hown.alloc _) (fun e9 => by cases e9) rfl (fun ad9 e9 j9 u9 hu9 => by cases e9; exact news_blk2 (e := 24) (heap_new rfl) hu9) (by simp [Value.oneCell']) (by simp only [maxLen]; omega) (by omega) (by simp; omega) ?_; intro vS wS hownS hgrowS)
      go_roundw
      case rel => exact ⟨j + 1, by omega, by go_num, by unfold spanNews at *; rw [pair_news_succ]; dsimp only; rw [← HZ.out]; exact hownS, hb.trans (((below_alloc1 wr _).mono (by omega)) |>.trans (below_row hown hgrowS (by omega)))⟩
      case measure => simp [intOf]; omega
    · obtain rfl : m = j := by omega
      have hd0 : decide (m < m) = false := by simp
      obtain ⟨oS, cS, rfl, hsp, -⟩ := owns_spans hown
      have HS := Lib.hid hsp
      clear hsp hown
      skip
      obtain ⟨W6, hW⟩ : ∃ X, X = wr := ⟨_, rfl⟩
      rw [← hW] at HS hb ⊢
      clear hW
      have L_6 := Lib.hid (L_5.out.below hb)
      have K13_4 := Lib.hid (K13_3.out.below hb)
      have HS1_3 := Lib.hid (HS1_2.out.mono hb)
      clear L_5 K13_3 HS1_2 hb
      have HS_0 := HS
      clear HS
      obtain ⟨t9, ht9⟩ : ∃ t9, t9 = t % m := ⟨_, rfl⟩
      have ht0 : t9 < m := by rw [ht9]; exact Nat.mod_lt _ (by omega)
      have hq1 : (t : Int) % (m : Int) = (t9 : Int) := by rw [ht9]; simp
      have hq2 : (t : Int).tmod (m : Int) = (t9 : Int) := by rw [Int.tmod_eq_emod_of_nonneg (by omega)]; exact hq1
      obtain ⟨Q, hQ⟩ : ∃ Q, Q + t9 = m := ⟨m - t9, by omega⟩
      have HQ := Lib.hid (show Q = m - t % m by omega)
      have hq3 : (m : Int) - (t9 : Int) = (Q : Int) := by omega
      have hm0 : (m : Int) ≠ 0 := by omega
      have hQ9 : Q ≤ m := by omega
      clear ht9 hQ
      obtain ⟨b0, b1, b2, b3, b4, b5, b6, b7⟩ := BB.cells (b := b) L_6.out.B
      obtain ⟨c0, c1, c2, c3, c4, c5, c6⟩ := CB.cells (x := x) L_6.out.X
      go_wp2_with fail
      refine (Errors_any b x oa cap oS m cS (fun z => r (turnI m t z)) _ (by omega) hcap (HT.out.mono L_6.out.low) (by omega) HS_0.out).mono ?_
      rintro e w7 ⟨o3, p3, rfl, hS3, hb7⟩
      rw [testR_turn HTE.out (by omega), HTE.out, ← HV.out, cnt_zero] at hS3
      rw [testR_turn HTE.out (by omega), HTE.out, cnt_zero]
      clear hq1 hq2
      clear b0 b1 b2 b3 b4 b5 b6 b7 c0 c1 c2 c3 c4 c5 c6
      have L_7 := Lib.hid (L_6.out.below hb7)
      have K13_5 := Lib.hid (K13_4.out.below hb7)
      have HS1_4 := Lib.hid (HS1_3.out.mono hb7)
      have HS_1 := Lib.hid (HS_0.out.mono hb7)
      clear L_6 K13_4 HS1_3 HS_0 hb7
      have HS3_0 := Lib.hid hS3
      clear hS3
      obtain ⟨si, hsi⟩ : ∃ y, y = ni + Q := ⟨_, rfl⟩
      obtain ⟨sk, hsk⟩ : ∃ y, y = nk + Q := ⟨_, rfl⟩
      obtain ⟨ti, hti⟩ : ∃ y, y = si % m := ⟨_, rfl⟩
      obtain ⟨tk, htk⟩ : ∃ y, y = sk % m := ⟨_, rfl⟩
      have hti0 : ti < m := by rw [hti]; exact Nat.mod_lt _ (by omega)
      have htk0 : tk < m := by rw [htk]; exact Nat.mod_lt _ (by omega)
      have bi : turnI m t ti = ni := by rw [hti, hsi, HQ.out]; exact turn_back hni
      have bk : turnI m t tk = nk := by rw [htk, hsk, HQ.out]; exact turn_back hnk
      have hne9 : ti ≠ tk := fun h9 => hnn (by rw [← bi, ← bk, h9])
      have hin3 : gapIn m ti tk = true := by simp [gapIn, withinB]; omega
      have HG2 := Lib.hid (show gapS (b.testR x m (fun z => r (turnI m t z))).1 (b.testR x m (fun z => r (turnI m t z))).2 m (fun z => r (turnI m t z)) ti tk = gs ∧ gapE (b.testR x m (fun z => r (turnI m t z))).2 m ti tk = 0 by
        rw [testR_turn HTE.out (by omega), HTE.out, ← HV.out, gapS_yes hin3, gapE_yes hin3, HGG.out]
        refine ⟨?_, rfl⟩
        simp only [gapLo, gapHi, Int.toNat_natCast, bi, bk])
      have V1 : IntKind.i64.wrap ((ni : Int) + (Q : Int)) = (si : Int) := by rw [IntWalk.i64_in _ (by omega)]; omega
      have V2 : IntKind.i64.wrap ((nk : Int) + (Q : Int)) = (sk : Int) := by rw [IntWalk.i64_in _ (by omega)]; omega
      have V3 : (ni : Int) + (Q : Int) = (si : Int) := by omega
      have V4 : (nk : Int) + (Q : Int) = (sk : Int) := by omega
      have R1 : (si : Int) % (m : Int) = (ti : Int) := by rw [hti]; simp
      have R2 : (sk : Int) % (m : Int) = (tk : Int) := by rw [htk]; simp
      have R3 : (si : Int).tmod (m : Int) = (ti : Int) := by rw [Int.tmod_eq_emod_of_nonneg (by omega)]; exact R1
      have R4 : (sk : Int).tmod (m : Int) = (tk : Int) := by rw [Int.tmod_eq_emod_of_nonneg (by omega)]; exact R2
      clear hsi hsk hti htk bi bk
      obtain ⟨W7, hW⟩ : ∃ X, X = w7 := ⟨_, rfl⟩
      rw [← hW] at L_7 K13_5 HS1_4 HS_1 HS3_0  ⊢
      clear hW
      go_wp2_with fail
      have hCC : ∀ A B : World, Below W7.heap.size W7 A → Below A.heap.size A B → Below W7.heap.size W7 B := fun A B h1 h2 => h1.trans (h2.mono h1.size)
      have hC0 : Below W7.heap.size W7 W7.drew := (Below.refl _ _).drew
      refine wp_region_garb (Below W7.heap.size W7) (by kernel_rfl) ?_
      (refine wpAnyG_take (i := 0) hCC hC0 rfl (by kernel_rfl) (by kernel_rfl) (by kernel_rfl) (fun _ _ _ _ h => h) (by rfl) ?_; apply Exists.intro; refine ⟨fun w1 h1 K hK => ?_, ?_⟩; · (have f := fun W9 : Aft w1 => L_7.out.B.below (hCC _ _ h1 W9.below); have f0 : ∀ W : Aft w1, W.val.cell? ⟨w.heap.size, 0, none⟩ = some (.bool b.weighs) := fun W => (f W).cell 0 rfl; have f1 : ∀ W : Aft w1, W.val.cell? ⟨w.heap.size, 1, none⟩ = some (.slice oa b.n cap) := fun W => (f W).cell 1 rfl; have f2 : ∀ W : Aft w1, W.val.cell? ⟨w.heap.size, 2, none⟩ = some (.int .i64 b.off) := fun W => (f W).cell 2 rfl; have f3 : ∀ W : Aft w1, W.val.cell? ⟨w.heap.size, 3, none⟩ = some (.int .i64 b.buoy.lo) := fun W => (f W).cell 3 rfl; have f4 : ∀ W : Aft w1, W.val.cell? ⟨w.heap.size, 4, none⟩ = some (.int .i64 b.buoy.hi) := fun W => (f W).cell 4 rfl; have f5 : ∀ W : Aft w1, W.val.cell? ⟨w.heap.size, 5, none⟩ = some (.int .i64 b.air.lo) := fun W => (f W).cell 5 rfl; have f6 : ∀ W : Aft w1, W.val.cell? ⟨w.heap.size, 6, none⟩ = some (.int .i64 b.air.hi) := fun W => (f W).cell 6 rfl; go_big_quiet_op; first | exact hK | fail))
      (refine wpAnyG_take (i := 1) hCC hC0 rfl (by kernel_rfl) (by kernel_rfl) (by kernel_rfl) (fun _ _ _ _ h => h) (by rfl) ?_; apply Exists.intro; refine ⟨fun w1 h1 K hK => ?_, ?_⟩; · (have f := fun W9 : Aft w1 => L_7.out.X.below (hCC _ _ h1 W9.below); have f0 : ∀ W : Aft w1, W.val.cell? ⟨w.heap.size + 1, 0, none⟩ = some (.int .i64 x.beg.lo) := fun W => (f W).cell 0 rfl; have f1 : ∀ W : Aft w1, W.val.cell? ⟨w.heap.size + 1, 1, none⟩ = some (.int .i64 x.beg.hi) := fun W => (f W).cell 1 rfl; have f2 : ∀ W : Aft w1, W.val.cell? ⟨w.heap.size + 1, 2, none⟩ = some (.int .i64 x.fin.lo) := fun W => (f W).cell 2 rfl; have f3 : ∀ W : Aft w1, W.val.cell? ⟨w.heap.size + 1, 3, none⟩ = some (.int .i64 x.fin.hi) := fun W => (f W).cell 3 rfl; have f4 : ∀ W : Aft w1, W.val.cell? ⟨w.heap.size + 1, 4, none⟩ = some (.int .i64 x.warm.lo) := fun W => (f W).cell 4 rfl; have f5 : ∀ W : Aft w1, W.val.cell? ⟨w.heap.size + 1, 5, none⟩ = some (.int .i64 x.warm.hi) := fun W => (f W).cell 5 rfl; go_big_quiet_op; first | exact hK | fail))
      (refine wpAnyG_take (i := 2) hCC hC0 rfl (by kernel_rfl) (by kernel_rfl) (by kernel_rfl) (fun _ _ _ _ h => h) (by rfl) ?_; apply Exists.intro; refine ⟨fun w1 h1 K hK => ?_, ?_⟩; · ( go_big_quiet_op; first | exact hK | fail))
      (refine wpAnyG_take (i := 3) hCC hC0 rfl (by kernel_rfl) (by kernel_rfl) (by kernel_rfl) (fun _ _ _ _ h => h) (by rfl) ?_; apply Exists.intro; refine ⟨fun w1 h1 K hK => ?_, ?_⟩; · ( go_big_quiet_op; first | exact hK | fail))
      (refine wpAnyG_take (i := 4) hCC hC0 rfl (by kernel_rfl) (by kernel_rfl) (by kernel_rfl) (fun _ _ _ _ h => h) (by rfl) ?_; apply Exists.intro; refine ⟨fun w1 h1 K hK => ?_, ?_⟩; · ( go_big_quiet_op; first | exact hK | fail))
      (refine wpAnyG_take (i := 5) hCC hC0 rfl (by kernel_rfl) (by kernel_rfl) (by kernel_rfl) (fun _ _ _ _ h => h) (by rfl) ?_; apply Exists.intro; refine ⟨fun w1 h1 K hK => ?_, ?_⟩; · ( go_big_quiet_op; first | exact hK | fail))
      (refine wpAnyG_take (i := 6) hCC hC0 rfl (by kernel_rfl) (by kernel_rfl) (by kernel_rfl) (fun _ _ _ _ h => h) (by rfl) ?_; apply Exists.intro; refine ⟨fun w1 h1 K hK => ?_, ?_⟩; · ( go_big_quiet_op; first | exact hK | fail))
      (refine wpAnyG_take (i := 7) hCC hC0 rfl (by kernel_rfl) (by kernel_rfl) (by kernel_rfl) (fun _ _ _ _ h => h) (by rfl) ?_; apply Exists.intro; refine ⟨fun w1 h1 K hK => ?_, ?_⟩; · ( go_big_quiet_op; first | exact hK | fail))
      (refine wpAnyG_take (i := 8) hCC hC0 rfl (by kernel_rfl) (by kernel_rfl) (by kernel_rfl) (fun _ _ _ _ h => h) (by rfl) ?_; apply Exists.intro; refine ⟨fun w1 h1 K hK => ?_, ?_⟩; · ( go_big_quiet_op; first | exact hK | fail))
      (refine wpAnyG_take (i := 9) hCC hC0 rfl (by kernel_rfl) (by kernel_rfl) (by kernel_rfl) (fun _ _ _ _ h => h) (by rfl) ?_; apply Exists.intro; refine ⟨fun w1 h1 K hK => ?_, ?_⟩; · ( go_big_quiet_op; first | exact hK | fail))
      (refine wpAnyG_take (i := 10) hCC hC0 rfl (by kernel_rfl) (by kernel_rfl) (by kernel_rfl) (fun _ _ _ _ h => h) (by rfl) ?_; apply Exists.intro; refine ⟨fun w1 h1 K hK => ?_, ?_⟩; · ( go_big_quiet_op; first | exact hK | fail))
      (refine wpAnyG_take (i := 11) hCC hC0 rfl (by kernel_rfl) (by kernel_rfl) (by kernel_rfl) (fun _ _ _ _ h => h) (by rfl) ?_; apply Exists.intro; refine ⟨fun w1 h1 K hK => ?_, ?_⟩; · ( go_big_quiet_op; first | exact hK | fail))
      (refine wpAnyG_take (i := 12) hCC hC0 rfl (by kernel_rfl) (by kernel_rfl) (by kernel_rfl) (fun _ _ _ _ h => h) (by rfl) ?_; apply Exists.intro; refine ⟨fun w1 h1 K hK => ?_, ?_⟩; · ( go_big_quiet_op; first | exact hK | fail))
      (refine wpAnyG_take (i := 13) hCC hC0 rfl (by kernel_rfl) (by kernel_rfl) (by kernel_rfl) (fun _ _ _ _ h => h) (by rfl) ?_; apply Exists.intro; refine ⟨fun w1 h1 K hK => ?_, ?_⟩; · ( go_big_quiet_op; first | exact hK | fail))
      (refine wpAnyG_take (i := 14) hCC hC0 rfl (by kernel_rfl) (by kernel_rfl) (by kernel_rfl) (fun _ _ _ _ h => h) (by rfl) ?_; apply Exists.intro; refine ⟨fun w1 h1 K hK => ?_, ?_⟩; · ( go_big_quiet_op; first | exact hK | fail))
      (refine wpAnyG_take (i := 15) hCC hC0 rfl (by kernel_rfl) (by kernel_rfl) (by kernel_rfl) (fun _ _ _ _ h => h) (by rfl) ?_; apply Exists.intro; refine ⟨fun w1 h1 K hK => ?_, ?_⟩; · ( go_big_quiet_op; first | exact hK | exact ⟨_, fun W => aft_call (Gap_any b x oa cap oS m cS (fun z => r (turnI m t z)) ti tk _ (by omega) hcap (HT.out.mono (L_7.out.low.trans ((hCC _ _ h1 W.below).mono L_7.out.low.size))) (by omega) (HS_1.out.mono (hCC _ _ h1 W.below))), hK⟩))
      rw [HG2.out.1, HG2.out.2]
      (refine wpAnyG_take (i := 16) hCC hC0 rfl (by kernel_rfl) (by kernel_rfl) (by kernel_rfl) (fun _ _ _ _ h => h) (by rfl) ?_; apply Exists.intro; refine ⟨fun w1 h1 K hK => ?_, ?_⟩; · ( go_big_quiet_op; first | exact hK | fail))
      (refine wpAnyG_take (i := 17) hCC hC0 rfl (by kernel_rfl) (by kernel_rfl) (by kernel_rfl) (fun _ _ _ _ h => h) (by rfl) ?_; apply Exists.intro; refine ⟨fun w1 h1 K hK => ?_, ?_⟩; · ( go_big_quiet_op; first | exact hK | fail))
      (refine wpAnyG_take (i := 18) hCC hC0 rfl (by kernel_rfl) (by kernel_rfl) (by kernel_rfl) (fun _ _ _ _ h => h) (by rfl) ?_; apply Exists.intro; refine ⟨fun w1 h1 K hK => ?_, ?_⟩; · ( go_big_quiet_op; first | exact hK | fail))
      (refine wpAnyG_one (i := 19) (by kernel_rfl) rfl (by rfl) (fun wa hwa K hK => ?_)); go_simp; refine hK _ _ ((hCC _ _ hC0 hwa).alloc (by have := hC0.size; have := hwa.size; omega) _) ?_; clear hK K
      have s9 := Box.new (g := wa.heap.size) #[.int .i64 0, .int .i64 0] 24 wa rfl
      have hC1 := (hCC _ _ hC0 hwa).alloc (by have := hC0.size; have := hwa.size; omega) (.cells #[.int .i64 0, .int .i64 0] 24)
      have hg9 : W7.heap.size ≤ wa.heap.size := Nat.le_trans hC0.size hwa.size
      clear hwa
      obtain ⟨g9, hG⟩ : ∃ G, G = wa.heap.size := ⟨_, rfl⟩
      obtain ⟨wA, hWA⟩ : ∃ X, X = wa.alloc (.cells #[.int .i64 0, .int .i64 0] 24) := ⟨_, rfl⟩
      rw [← hG] at s9 hg9 ⊢
      rw [← hWA] at s9 hC1 ⊢
      clear hG hWA
      (refine wpAnyG_one (i := 20) (by kernel_rfl) rfl (by rfl) (fun wb hwb K hK => ?_)); refine wp_store_box (s9.below hwb) rfl rfl rfl rfl (by kernel_rfl) (by simp [Value.oneCell']) (fun wc s8 ho => ?_); dsimp only [Act.put]; refine hK _ _ ((hCC _ _ hC1 hwb).trans (ho.below hg9)) ?_; clear hK K
      have hC2 := (hCC _ _ hC1 hwb).trans (ho.below hg9)
      clear s9 hC1 ho hwb
      (refine wpAnyG_one (i := 21) (by kernel_rfl) rfl (by rfl) (fun wd hwd K hK => ?_)); go_simp; refine hK _ _ (hCC _ _ hC2 hwd) ?_; clear hK K
      refine wpAnyG_done (by kernel_rfl) (fun wz hwz => ?_) _
      have h9 := (s8.below hwd).below hwz
      have hz9 := hCC _ _ (hCC _ _ hC2 hwd) hwz
      clear s8 hC2 hwd hwz hC0 hCC
      clear hg9 V1 V2 V3 V4 R1 R2 R3 R4 hq3 HG2 hin3
      clear HS_1
      have L_8 := Lib.hid (L_7.out.below hz9)
      have K13_6 := Lib.hid (K13_5.out.below hz9)
      have HS1_5 := Lib.hid (HS1_4.out.mono hz9)
      have HS3_1 := Lib.hid (HS3_0.out.mono hz9)
      clear L_7 K13_5 HS1_4 HS3_0 hz9
      have K24_0 := Lib.hid h9
      clear h9
      obtain ⟨W8, hW⟩ : ∃ X, X = wz := ⟨_, rfl⟩
      rw [← hW] at L_8 K13_6 HS1_5 HS3_1 K24_0  ⊢
      clear hW
      have u0 := K24_0.out.cell 0 rfl
      have u1 := K24_0.out.cell 1 rfl
      simp only [List.getElem_toArray, List.getElem_cons_zero, List.getElem_cons_succ] at u0 u1
      have v0 := K13_6.out.cell 0 rfl
      have v1 := K13_6.out.cell 1 rfl
      simp only [List.getElem_toArray, List.getElem_cons_zero, List.getElem_cons_succ] at v0 v1
      go_wp2_with fail
      clear u0 u1
      clear v0 v1
      go_loopw [26] (fun v26 wr => ∃ j : Nat, j ≤ m ∧ v26 = .int .i64 j ∧ Below W8.heap.size W8 wr) (fun i _ => m - (intOf i).toNat)
      case atStart => exact ⟨0, Nat.zero_le _, rfl, Below.refl _ _⟩
      case round =>
        obtain ⟨j, hj, rfl, hb⟩ := hrel
        by_cases hlt : j < m
        · have hd1 : decide (j < m) = true := by simpa using hlt
          have hj0 : (0 : Int) ≤ (j : Int) := by omega
          have hj1 : (j : Int) < (m : Int) := by omega
          obtain ⟨z, hz⟩ : ∃ z, z = turnI m t j := ⟨_, rfl⟩
          have hzm : z < m := by rw [hz]; exact Nat.mod_lt _ (by omega)
          obtain ⟨sz, hsz⟩ : ∃ y, y = j + t := ⟨_, rfl⟩
          have V1 : IntKind.i64.wrap ((j : Int) + (t : Int)) = (sz : Int) := by rw [IntWalk.i64_in _ (by omega)]; omega
          have V3 : (j : Int) + (t : Int) = (sz : Int) := by omega
          have R1 : (sz : Int) % (m : Int) = (z : Int) := by rw [hz, hsz]; unfold turnI; simp
          have R3 : (sz : Int).tmod (m : Int) = (z : Int) := by rw [Int.tmod_eq_emod_of_nonneg (by omega)]; exact R1
          have hz0 : (0 : Int) ≤ (z : Int) := by omega
          have hz1 : (z : Int) < (m : Int) := by omega
          obtain ⟨b3, o3', rfl, l3, c0, c1⟩ := (HS3_1.out.mono hb) j hlt
          obtain ⟨bx, ox, ex, l6', a0, a1⟩ := (HS1_5.out.mono hb) z hzm
          cases ex
          dsimp only at c0 c1 a0 a1
          rw [← hz] at c0 c1
          generalize errR v (r z) = E at *
          clear hz hsz
          have f0 : ∀ W : Aft wr, W.val.cell? ⟨b3, o3' + j * 2, none⟩ = some (.int .i64 E.lo) := fun W => (W.below.cell (p := ⟨b3, o3' + j * 2, none⟩) l3).trans c0
          have f1 : ∀ W : Aft wr, W.val.cell? ⟨b3, o3' + j * 2 + 1, none⟩ = some (.int .i64 E.hi) := fun W => (W.below.cell (p := ⟨b3, o3' + j * 2 + 1, none⟩) l3).trans c1
          have f2 : ∀ W : Aft wr, W.val.cell? ⟨b6, o6 + z * 2, none⟩ = some (.int .i64 E.lo) := fun W => (W.below.cell (p := ⟨b6, o6 + z * 2, none⟩) l6').trans a0
          have f3 : ∀ W : Aft wr, W.val.cell? ⟨b6, o6 + z * 2 + 1, none⟩ = some (.int .i64 E.hi) := fun W => (W.below.cell (p := ⟨b6, o6 + z * 2 + 1, none⟩) l6').trans a1
          clear c0 c1 a0 a1
          go_wp2_with fail
          refine wp_region_aft (by kernel_rfl) (by kernel_rfl) ?_
          repeat (go_big_quiet_step (fail))
          refine wpQuiet_nil ?_
          intro WA
          obtain ⟨wy, hwy⟩ : ∃ X, X = WA.val := ⟨_, rfl⟩
          have hby := WA.below
          rw [← hwy] at hby ⊢
          clear hwy WA
          clear f0 f1 f2 f3 V1 V3 R1 R3
          go_wp2_with fail
          go_roundw
          case rel => exact ⟨j + 1, by omega, by go_num, hb.trans (hby.mono hb.size)⟩
          case measure => simp [intOf]; omega
        · have hd1 : decide (j < m) = false := by simpa using hlt
          have hlz := L_8.out.low.trans (hb.mono L_8.out.low.size)
          go_wp2_with fail
          refine (awake_any _).mono ?_
          rintro e wz ⟨rfl, hbz⟩
          go_wp2
          go_ret
          exact ⟨rfl, hlz.trans (hbz.mono hlz.size)⟩
end Go.Proofs.Ythoefcpeagclbaa
