/- The walk of BenchTrue. -/
import Derived.Test.YthoefcpeagclbaaW41
import Derived.Test.YthoefcpeagclbaaL3
namespace Go.Proofs.Ythoefcpeagclbaa
open Go.RowKit
/-- what a law knows of its bench and catch -/
structure Lw (w : World) (b : Bnch) (oa : Option Addr) (cap : Nat) (x : Ctch) (w' : World) : Prop where
  low : Below w.heap.size w w'
  B : BB 26 b oa cap w.heap.size w'
  X : CB x (w.heap.size + 1) w'
theorem Lw.below {w : World} {b : Bnch} {oa : Option Addr} {cap : Nat} {x : Ctch} {w1 w2 : World} (h : Lw w b oa cap x w1) (hb : Below w1.heap.size w1 w2) : Lw w b oa cap x w2 := ⟨h.low.trans (hb.mono h.low.size), h.B.below hb, h.X.below hb⟩
theorem flowR_ok {b : Bnch} {x : Ctch} {s : Spn} (h : (b.flowR x s).2 = 0) : spanB s 1 100000000 = true ∧ (b.flowR x s).1 = ⟨rnd 0 ((b.waterR x).1.lo * 3600) s.hi, rnd 1 ((b.waterR x).1.hi * 3600) s.lo⟩ := by
  unfold Bnch.flowR at h ⊢
  by_cases h1 : (b.waterR x).2 = 0
  · rw [if_pos h1] at h ⊢
    by_cases h2 : spanB s 1 100000000 = true
    · rw [if_pos h2]; exact ⟨h2, rfl⟩
    · rw [if_neg h2] at h; simp at h
  · rw [if_neg h1] at h; exact absurd h h1
set_option maxRecDepth 100000 in
set_option maxHeartbeats 16000000 in
theorem true_of (b : Bnch) (x : Ctch) (s : Spn) (oa : Option Addr) (cap : Nat) (or : Option Addr) (m cr : Nat) (r : Nat → Spn) (most : Int) (ka : Option Addr) (kn kc : Nat) (q : Nat → Nat) (w : World) (hcap : b.n ≤ cap) (hT : MarksAt w oa b.n b.t) (hm : m ≤ 9223372036854775807) (hR : SpnsAt w or m r) (hkn2 : kn ≤ 9223372036854775807) (hQ : U32sAt w ka kn q) :
    Calls Try.prog 5 #[b.val oa cap, x.val, s.val, .slice or m cr, .int .i64 most, .slice ka kn kc] w (TrueEnd w) := by
  have HT := Lib.hid hT
  have HR := Lib.hid hR
  have HQ := Lib.hid hQ
  have HM := Lib.hid hm
  clear hT hR hQ hm
  go_enter Try.func5, Try.ntmps5
  go_wp2_with fail
  have hL : Lw w b oa cap x ((two 26 b oa cap x w).alloc (.cells #[.int .i64 s.lo, .int .i64 s.hi] 24)) := ⟨(two_below 26 b oa cap x w).alloc (by simp; omega) _, (two_bench 26 b oa cap x w).old _, (two_catch 26 b oa cap x w).old _⟩
  have hS : SB s 24 (w.heap.size + 1 + 1) ((two 26 b oa cap x w).alloc (.cells #[.int .i64 s.lo, .int .i64 s.hi] 24)) := Box.new _ _ _ (by simp)
  obtain ⟨W, hW⟩ : ∃ X, X = ((two 26 b oa cap x w).alloc (.cells #[.int .i64 s.lo, .int .i64 s.hi] 24)) := ⟨_, rfl⟩
  rw [← hW] at hL hS
  simp only [two] at hW
  rw [← hW]
  clear hW
  have L_0 := Lib.hid hL
  have KS_0 := Lib.hid hS
  clear hL hS
  refine (large_any b oa cap or m cr r 4611686018427387904 _ (HR.out.mono L_0.out.low) HM.out).mono ?_
  rintro e w1 ⟨rfl, hb1⟩
  have L_1 := Lib.hid (L_0.out.below hb1)
  have KS_1 := Lib.hid (KS_0.out.below hb1)
  clear L_0 KS_0 hb1
  rcases hl : largeR b m r 4611686018427387904
  case true =>
    clear hl
    go_wp2_with fail
    refine (awake_any _).mono ?_
    rintro e wz ⟨rfl, hbz⟩
    go_wp2
    go_ret
    exact ⟨rfl, L_1.out.low.trans (hbz.mono L_1.out.low.size)⟩
  have hn := (large_no hl).1
  have hm := (large_no hl).2.1
  clear hl
  by_cases hk0 : ((kn : Int) == 0) = true
  case pos =>
    go_wp2_with fail
    refine (awake_any _).mono ?_
    rintro e wz ⟨rfl, hbz⟩
    go_wp2
    go_ret
    exact ⟨rfl, L_1.out.low.trans (hbz.mono L_1.out.low.size)⟩
  replace hk0 : ((kn : Int) == 0) = false := by simpa using hk0
  have hkn : 0 < kn := by simp at hk0; omega
  obtain ⟨hq00, qb, qo, rfl, hql, -⟩ := HQ.out 0 hkn
  obtain ⟨b0, b1, b2, b3, b4, b5, b6, b7⟩ := BB.cells (b := b) L_1.out.B
  obtain ⟨c0, c1, c2, c3, c4, c5, c6⟩ := CB.cells (x := x) L_1.out.X
  go_wp2_with fail
  refine (Water_any b x oa cap _ (by omega) hcap (HT.out.mono L_1.out.low)).mono ?_
  rintro e w2 ⟨rfl, hb2⟩
  by_cases he : (b.waterR x).2 = 0
  case neg =>
    have hv0 : (b.waterR x).1 = ⟨0, 0⟩ := by
      rcases waterR_form b x with h9 | h9
      · exact h9.1
      · exact absurd h9.1 he
    rw [hv0]
    generalize (b.waterR x).2 = e9 at he ⊢
    have hne : (e9 != 0) = true := by simpa using he
    clear he
    have hlz := (L_1.out.low.trans (hb2.mono L_1.out.low.size)).alloc (Nat.le_trans L_1.out.low.size hb2.size) (.cells #[.int .i64 0, .int .i64 0] 24)
    clear hb2
    go_wp2_with fail
    refine (awake_any _).mono ?_
    rintro e wz ⟨rfl, hbz⟩
    go_wp2
    go_ret
    exact ⟨rfl, hlz.trans (hbz.mono hlz.size)⟩
  have HE := Lib.hid he
  rw [he]
  clear he
  have hv1 := (waterR_form b x).resolve_left (fun h9 => by have := HE.out; omega)
  have hv2 := water_le HE.out
  obtain ⟨v, hv⟩ : ∃ v, v = (b.waterR x).1 := ⟨_, rfl⟩
  rw [← hv] at hv1 hv2 ⊢
  obtain ⟨-, y1, y2, -, y4⟩ := hv1
  have HV := Lib.hid hv
  clear hv
  clear b0 b1 b2 b3 b4 b5 b6 b7 c0 c1 c2 c3 c4 c5 c6
  have hbE := hb2.alloc hb2.size (.cells #[.int .i64 v.lo, .int .i64 v.hi] 24)
  have T9 := Box.new (g := w2.heap.size) #[.int .i64 v.lo, .int .i64 v.hi] 24 w2 rfl
  have L_2 := Lib.hid (L_1.out.below hbE)
  have KS_2 := Lib.hid (KS_1.out.below hbE)
  clear L_1 KS_1 hbE
  clear hb2
  go_upto_region 4 with fail
  obtain ⟨g13, hg⟩ : ∃ n, n = w2.heap.size := ⟨_, rfl⟩
  obtain ⟨W2, hW⟩ : ∃ X, X = w2.alloc (.cells #[.int .i64 v.lo, .int .i64 v.hi] 24) := ⟨_, rfl⟩
  rw [← hW] at L_2 KS_2 T9 ⊢
  rw [← hg] at T9 ⊢
  clear hW hg
  have K13_0 := Lib.hid T9
  clear T9
  obtain ⟨b0, b1, b2, b3, b4, b5, b6, b7⟩ := BB.cells (b := b) L_2.out.B
  obtain ⟨c0, c1, c2, c3, c4, c5, c6⟩ := CB.cells (x := x) L_2.out.X
  go_wp2_with fail
  refine (refBench_any b oa cap _ (by omega) (HT.out.mono L_2.out.low)).mono ?_
  rintro e w3 ⟨rfl, hb3⟩
  rw [(waterR_ok HE.out).1]
  have hn1 := (valid_all (waterR_ok HE.out).1).2.1
  clear b0 b1 b2 b3 b4 b5 b6 b7 c0 c1 c2 c3 c4 c5 c6
  have L_3 := Lib.hid (L_2.out.below hb3)
  have KS_3 := Lib.hid (KS_2.out.below hb3)
  have K13_1 := Lib.hid (K13_0.out.below hb3)
  clear L_2 KS_2 K13_0 hb3
  obtain ⟨b0, b1, b2, b3, b4, b5, b6, b7⟩ := BB.cells (b := b) L_3.out.B
  obtain ⟨c0, c1, c2, c3, c4, c5, c6⟩ := CB.cells (x := x) L_3.out.X
  go_wp2_with fail
  refine (refCatch_any b x oa cap _ (by omega) (by omega) (HT.out.mono L_3.out.low)).mono ?_
  rintro e w4 ⟨rfl, hb4⟩
  rw [(waterR_ok HE.out).2.1]
  clear b0 b1 b2 b3 b4 b5 b6 b7 c0 c1 c2 c3 c4 c5 c6
  have L_4 := Lib.hid (L_3.out.below hb4)
  have KS_4 := Lib.hid (KS_3.out.below hb4)
  have K13_2 := Lib.hid (K13_1.out.below hb4)
  clear L_3 KS_3 K13_1 hb4
  obtain ⟨b0, b1, b2, b3, b4, b5, b6, b7⟩ := BB.cells (b := b) L_4.out.B
  obtain ⟨c0, c1, c2, c3, c4, c5, c6⟩ := CB.cells (x := x) L_4.out.X
  have p0 := K13_2.out.cell 0 rfl
  have p1 := K13_2.out.cell 1 rfl
  simp only [List.getElem_toArray, List.getElem_cons_zero, List.getElem_cons_succ] at p0 p1
  have z1 : ¬ v.lo < 1 := by omega
  have z2 : ¬ v.hi < v.lo := by omega
  go_wp2_with fail
  refine (truth_any b x oa cap _ kn kc q _ HE.out (HT.out.mono L_4.out.low) hkn hkn2 (HQ.out.mono L_4.out.low)).mono ?_
  rintro e w5 ⟨rfl, hb5⟩
  have LH := low_high HE.out (fun j => q (j % kn))
  have hOK := (truth_in HE.out (fun j => q (j % kn))).1
  obtain ⟨F, hF⟩ : ∃ F, F = truthF b x (fun j => q (j % kn)) := ⟨_, rfl⟩
  have HLO : lowV b x (fun j => q (j % kn)) = F.down + pickV b.air (q 0) := by rw [hF]; unfold lowV airV; simp only [Nat.zero_mod]
  have HHI : highV b x (fun j => q (j % kn)) = F.up + pickV b.air (q 0) := by rw [hF]; unfold highV airV; simp only [Nat.zero_mod]
  obtain ⟨low, hlow⟩ : ∃ l, l = lowV b x (fun j => q (j % kn)) := ⟨_, rfl⟩
  obtain ⟨high, hhigh⟩ : ∃ l, l = highV b x (fun j => q (j % kn)) := ⟨_, rfl⟩
  rw [← hF] at hOK ⊢
  rw [← hlow, ← hhigh, ← HV.out] at LH
  rw [← hlow] at HLO
  rw [← hhigh] at HHI
  clear hF hlow hhigh z1 z2
  obtain ⟨x1, x2, x3, x4, x5⟩ := LH
  have HOK := Lib.hid hOK
  clear hOK
  have hai := Lib.hid (valid_all (waterR_ok HE.out).1).2.2.2.2.2
  obtain ⟨air, hair⟩ : ∃ a, a = pickV b.air (q 0) := ⟨_, rfl⟩
  rw [← hair] at HLO HHI
  have HAIR := Lib.hid hair
  clear hair
  obtain ⟨dn, hdn⟩ : ∃ a, a = F.down := ⟨_, rfl⟩
  obtain ⟨up, hup⟩ : ∃ a, a = F.up := ⟨_, rfl⟩
  rw [← hdn] at HLO
  rw [← hup] at HHI
  have V1 : IntKind.i64.wrap (dn + air) = low := by rw [← HLO]; exact IntWalk.i64_in _ (by omega)
  have V2 : IntKind.i64.wrap (up + air) = high := by rw [← HHI]; exact IntWalk.i64_in _ (by omega)
  have HDN := Lib.hid hdn
  have HUP := Lib.hid hup
  clear hdn hup HLO HHI
  clear b0 b1 b2 b3 b4 b5 b6 b7 c0 c1 c2 c3 c4 c5 c6
  clear p0 p1
  have hbE := hb5.alloc hb5.size (.cells #[.int .i64 F.top, .int .i64 F.under] 50)
  have T9 := Box.new (g := w5.heap.size) #[.int .i64 F.top, .int .i64 F.under] 50 w5 rfl
  have L_5 := Lib.hid (L_4.out.below hbE)
  have KS_5 := Lib.hid (KS_4.out.below hbE)
  have K13_3 := Lib.hid (K13_2.out.below hbE)
  clear L_4 KS_4 K13_2 hbE
  clear hb5
  go_upto_region 9 with fail
  obtain ⟨g15, hg⟩ : ∃ n, n = w5.heap.size := ⟨_, rfl⟩
  obtain ⟨W5, hW⟩ : ∃ X, X = w5.alloc (.cells #[.int .i64 F.top, .int .i64 F.under] 50) := ⟨_, rfl⟩
  rw [← hW] at L_5 KS_5 K13_3 T9 ⊢
  rw [← hg] at T9 ⊢
  clear hW hg
  have K15_0 := Lib.hid T9
  clear T9
  go_wp2_with fail
  have f5 : ∀ W : Aft W5, W.val.cell? ⟨w.heap.size, 5, none⟩ = some (.int .i64 b.air.lo) := fun W => (L_5.out.below W.below).B.cell 5 rfl
  have f6 : ∀ W : Aft W5, W.val.cell? ⟨w.heap.size, 6, none⟩ = some (.int .i64 b.air.hi) := fun W => (L_5.out.below W.below).B.cell 6 rfl
  have f7 : ∀ W : Aft W5, W.val.cell? ⟨qb, qo, none⟩ = some (.int .u32 (q 0 : Nat)) := fun W => by
    obtain ⟨-, b9, o9, e9, -, u9⟩ := (HQ.out.mono (L_5.out.below W.below).low) 0 hkn
    cases e9
    simpa using u9
  have hkn0 : (0 : Int) < (kn : Int) := by omega
  have hkn00 : 0 < kn := hkn
  have HC := Lib.hid (show ∀ W : Aft W5, Calls Try.prog 26 #[b.air.val, .int .u32 (q 0 : Nat)] W.val fun e w' => e = .returned (.int .i64 air) ∧ Below W.val.heap.size W.val w' from fun W => by
    rw [HAIR.out]; exact pick_any b.air (q 0) W.val hq00 (by have := hai.out; omega) (by have := hai.out; omega))
  refine wp_region_aft (by kernel_rfl) (by kernel_rfl) ?_
  repeat (go_big_quiet_step ((go_at_call 26; exact aft_call (HC.out _))))
  refine wpQuiet_nil ?_
  intro WA
  obtain ⟨wy, hwy⟩ : ∃ X, X = WA.val := ⟨_, rfl⟩
  have hby := WA.below
  rw [← hwy] at hby ⊢
  clear hwy WA
  clear f5 f6 f7 HC
  have L_6 := Lib.hid (L_5.out.below hby)
  have KS_6 := Lib.hid (KS_5.out.below hby)
  have K13_4 := Lib.hid (K13_3.out.below hby)
  have K15_1 := Lib.hid (K15_0.out.below hby)
  clear L_5 KS_5 K13_3 K15_0 hby
  obtain ⟨W6, hW⟩ : ∃ X, X = wy := ⟨_, rfl⟩
  rw [← hW] at L_6 KS_6 K13_4 K15_1  ⊢
  clear hW
  go_wp2_with fail
  have f0 : ∀ W : Aft W6, W.val.cell? ⟨g15, 0, none⟩ = some (.int .i64 F.top) := fun W => (K15_1.out.below W.below).cell 0 rfl
  have f1 : ∀ W : Aft W6, W.val.cell? ⟨g15, 1, none⟩ = some (.int .i64 F.under) := fun W => (K15_1.out.below W.below).cell 1 rfl
  have HC1 := Lib.hid (show ∀ W : Aft W6, Calls Try.prog 27 #[F.val] W.val fun e w' => e = .returned (.int .i64 dn) ∧ Below W.val.heap.size W.val w' from fun W => by
    rw [HDN.out]; exact down_any F W.val HOK.out.u0 HOK.out.t2)
  have HC2 := Lib.hid (show ∀ W : Aft W6, Calls Try.prog 28 #[F.val] W.val fun e w' => e = .returned (.int .i64 up) ∧ Below W.val.heap.size W.val w' from fun W => by
    rw [HUP.out]; exact up_any F W.val HOK.out.u0 HOK.out.t2)
  refine wp_region_aft (by kernel_rfl) (by kernel_rfl) ?_
  repeat (go_big_quiet_step ((first | (go_at_call 27; exact aft_call (HC1.out _)) | (go_at_call 28; exact aft_call (HC2.out _)))))
  refine wpQuiet_nil ?_
  intro WA
  obtain ⟨wy, hwy⟩ : ∃ X, X = WA.val := ⟨_, rfl⟩
  have hby := WA.below
  rw [← hwy] at hby ⊢
  clear hwy WA
  clear f0 f1 HC1 HC2 V1 V2
  clear K15_1
  have L_7 := Lib.hid (L_6.out.below hby)
  have KS_7 := Lib.hid (KS_6.out.below hby)
  have K13_5 := Lib.hid (K13_4.out.below hby)
  clear L_6 KS_6 K13_4 hby
  obtain ⟨W7, hW⟩ : ∃ X, X = wy := ⟨_, rfl⟩
  rw [← hW] at L_7 KS_7 K13_5  ⊢
  clear hW
  obtain ⟨b0, b1, b2, b3, b4, b5, b6, b7⟩ := BB.cells (b := b) L_7.out.B
  obtain ⟨c0, c1, c2, c3, c4, c5, c6⟩ := CB.cells (x := x) L_7.out.X
  have p0 := K13_5.out.cell 0 rfl
  have p1 := K13_5.out.cell 1 rfl
  simp only [List.getElem_toArray, List.getElem_cons_zero, List.getElem_cons_succ] at p0 p1
  have s0 := KS_7.out.cell 0 rfl
  have s1 := KS_7.out.cell 1 rfl
  simp only [List.getElem_toArray, List.getElem_cons_zero, List.getElem_cons_succ] at s0 s1
  have z1 : ¬ low < v.lo := by omega
  have z2 : ¬ v.hi < high := by omega
  go_wp2_with fail
  refine (Flow_any b x s oa cap _ (by omega) hcap (HT.out.mono L_7.out.low)).mono ?_
  rintro e w8 ⟨rfl, hb8⟩
  have HFL := Lib.hid (fun h9 => flowR_ok (b := b) (x := x) (s := s) h9)
  obtain ⟨⟨f, fe⟩, hf⟩ : ∃ y, y = b.flowR x s := ⟨_, rfl⟩
  rw [← hf, ← HV.out] at HFL
  rw [← hf]
  dsimp only at HFL ⊢
  clear hf z1 z2
  clear b0 b1 b2 b3 b4 b5 b6 b7 c0 c1 c2 c3 c4 c5 c6
  clear p0 p1
  clear s0 s1
  have hbE := hb8.alloc hb8.size (.cells #[.int .i64 f.lo, .int .i64 f.hi] 24)
  have T9 := Box.new (g := w8.heap.size) #[.int .i64 f.lo, .int .i64 f.hi] 24 w8 rfl
  have L_8 := Lib.hid (L_7.out.below hbE)
  have KS_8 := Lib.hid (KS_7.out.below hbE)
  have K13_6 := Lib.hid (K13_5.out.below hbE)
  clear L_7 KS_7 K13_5 hbE
  clear hb8
  go_upto_region 14 with fail
  obtain ⟨g19, hg⟩ : ∃ n, n = w8.heap.size := ⟨_, rfl⟩
  obtain ⟨W8, hW⟩ : ∃ X, X = w8.alloc (.cells #[.int .i64 f.lo, .int .i64 f.hi] 24) := ⟨_, rfl⟩
  rw [← hW] at L_8 KS_8 K13_6 T9 ⊢
  rw [← hg] at T9 ⊢
  clear hW hg
  have K19_0 := Lib.hid T9
  clear T9
  go_upto_if 114 with fail
  go_cut [12, 21] from 113 to 140 (fun s12 s21 wx => s12 = .bool false ∧ Below W8.heap.size W8 wx)
  case first =>
    by_cases hfe : fe = 0
    case neg =>
      have hne : (fe == 0) = false := by simpa using hfe
      go_wp2_with fail
      go_meet
      exact ⟨rfl, Below.refl _ _⟩
    have hyes : (fe == 0) = true := by simpa using hfe
    obtain ⟨k1, k2⟩ := HFL.out hfe
    clear hfe
    simp only [spanB, decide_eq_true_eq] at k1
    obtain ⟨J, hJ⟩ : ∃ J, J + 1 = kn := ⟨kn - 1, by omega⟩
    have V1 : IntKind.i64.wrap ((kn : Int) - 1) = (J : Int) := by rw [IntWalk.i64_in _ (by omega)]; omega
    have i1 : (0 : Int) ≤ (J : Int) := by omega
    have i2 : (J : Int) < (kn : Int) := by omega
    have i3 : J < kn := by omega
    obtain ⟨t, ht⟩ : ∃ t, t = pickV s (q J) := ⟨_, rfl⟩
    have ht1 := pick_in (s := s) k1.2.1 (q J)
    rw [← ht] at ht1
    have HTT := Lib.hid ht
    have fl := flow_in (v := v) (s := s) (low := low) (high := high) (t := t) y1 x1 x2 x3 k1.1 ht1.1 ht1.2
    have k3 : f.lo = rnd 0 (v.lo * 3600) s.hi := by rw [k2]
    have k4 : f.hi = rnd 1 (v.hi * 3600) s.lo := by rw [k2]
    rw [← k3, ← k4] at fl
    clear k2 k3 k4 hJ ht
    obtain ⟨dn2, hd2⟩ : ∃ a, a = Frac.down ⟨low * 3600, t⟩ := ⟨_, rfl⟩
    obtain ⟨up2, hu2⟩ : ∃ a, a = Frac.up ⟨high * 3600, t⟩ := ⟨_, rfl⟩
    rw [← hd2, ← hu2] at fl
    have HD2 := Lib.hid hd2
    have HU2 := Lib.hid hu2
    clear hd2 hu2
    have z1 : decide (dn2 < f.lo) = false := by simp; omega
    have z2 : decide (f.hi < up2) = false := by simp; omega
    have z3 : ¬ f.hi < up2 := by omega
    clear fl
    go_wp2_with fail
    have f0 : ∀ W : Aft W8, W.val.cell? ⟨w.heap.size + 1 + 1, 0, none⟩ = some (.int .i64 s.lo) := fun W => (KS_8.out.below W.below).cell 0 rfl
    have f1 : ∀ W : Aft W8, W.val.cell? ⟨w.heap.size + 1 + 1, 1, none⟩ = some (.int .i64 s.hi) := fun W => (KS_8.out.below W.below).cell 1 rfl
    have hq9 := (HQ.out J i3).1
    have f7 : ∀ W : Aft W8, W.val.cell? ⟨qb, qo + J, none⟩ = some (.int .u32 (q J : Nat)) := fun W => by
      obtain ⟨-, b9, o9, e9, -, u9⟩ := (HQ.out.mono (L_8.out.below W.below).low) J i3
      cases e9
      exact u9
    have HC := Lib.hid (show ∀ W : Aft W8, Calls Try.prog 26 #[s.val, .int .u32 (q J : Nat)] W.val fun e w' => e = .returned (.int .i64 t) ∧ Below W.val.heap.size W.val w' from fun W => by
      rw [HTT.out]; exact pick_any s (q J) W.val hq9 (by omega) (by omega))
    refine wp_region_aft (by kernel_rfl) (by kernel_rfl) ?_
    repeat (go_big_quiet_step ((go_at_call 26; exact aft_call (HC.out _))))
    refine wpQuiet_nil ?_
    intro WA
    obtain ⟨wy, hwy⟩ : ∃ X, X = WA.val := ⟨_, rfl⟩
    have hby := WA.below
    rw [← hwy] at hby ⊢
    clear hwy WA
    clear f0 f1 f7 HC V1
    have K9 := Lib.hid (K19_0.out.below hby)
    obtain ⟨W9, hW⟩ : ∃ X, X = wy := ⟨_, rfl⟩
    rw [← hW] at K9 hby ⊢
    clear hW
    go_wp2_with fail
    have f0 : ∀ W : Aft W9, W.val.cell? ⟨g19, 0, none⟩ = some (.int .i64 f.lo) := fun W => (K9.out.below W.below).cell 0 rfl
    have f1 : ∀ W : Aft W9, W.val.cell? ⟨g19, 1, none⟩ = some (.int .i64 f.hi) := fun W => (K9.out.below W.below).cell 1 rfl
    have V1 : IntKind.i64.wrap (low * 3600) = low * 3600 := IntWalk.i64_in _ (by omega)
    have V2 : IntKind.i64.wrap (high * 3600) = high * 3600 := IntWalk.i64_in _ (by omega)
    have HC1 := Lib.hid (show ∀ W : Aft W9, Calls Try.prog 27 #[.agg #[.int .i64 (low * 3600), .int .i64 t]] W.val fun e w' => e = .returned (.int .i64 dn2) ∧ Below W.val.heap.size W.val w' from fun W => by
      rw [HD2.out]; exact down_any ⟨low * 3600, t⟩ W.val (by dsimp only; omega) (by dsimp only; omega))
    have HC2 := Lib.hid (show ∀ W : Aft W9, Calls Try.prog 28 #[.agg #[.int .i64 (high * 3600), .int .i64 t]] W.val fun e w' => e = .returned (.int .i64 up2) ∧ Below W.val.heap.size W.val w' from fun W => by
      rw [HU2.out]; exact up_any ⟨high * 3600, t⟩ W.val (by dsimp only; omega) (by dsimp only; omega))
    have hby9 := hby
    clear hby
    refine wp_region_aft (by kernel_rfl) (by kernel_rfl) ?_
    repeat (go_big_quiet_step ((first | (go_at_call 27; exact aft_call (HC1.out _)) | (go_at_call 28; exact aft_call (HC2.out _)))))
    refine wpQuiet_nil ?_
    intro WA
    obtain ⟨wy, hwy⟩ : ∃ X, X = WA.val := ⟨_, rfl⟩
    have hby := WA.below
    rw [← hwy] at hby ⊢
    clear hwy WA
    clear f0 f1 HC1 HC2 V1 V2
    go_wp2_with fail
    go_meet
    exact ⟨rfl, hby9.trans (hby.mono hby9.size)⟩
  case rest =>
    as_aux_lemma =>
      clear KS_8 K19_0 K13_6
      obtain ⟨rfl, hby⟩ := hcut
      have L_9 := Lib.hid (L_8.out.below hby)
      clear L_8 hby
      obtain ⟨W9, hW⟩ : ∃ X, X = wc := ⟨_, rfl⟩
      rw [← hW] at L_9  ⊢
      clear hW
      obtain ⟨b0, b1, b2, b3, b4, b5, b6, b7⟩ := BB.cells (b := b) L_9.out.B
      obtain ⟨c0, c1, c2, c3, c4, c5, c6⟩ := CB.cells (x := x) L_9.out.X
      go_wp2_with fail
      refine (Errors_any b x oa cap or m cr r _ (by omega) hcap (HT.out.mono L_9.out.low) (by omega) (HR.out.mono L_9.out.low)).mono ?_
      rintro e w10 ⟨o1, p1, rfl, hS1, hb10⟩
      clear b0 b1 b2 b3 b4 b5 b6 b7 c0 c1 c2 c3 c4 c5 c6
      have L_10 := Lib.hid (L_9.out.below hb10)
      clear L_9 hb10
      have HS1_0 := Lib.hid hS1
      clear hS1
      obtain ⟨b0, b1, b2, b3, b4, b5, b6, b7⟩ := BB.cells (b := b) L_10.out.B
      obtain ⟨c0, c1, c2, c3, c4, c5, c6⟩ := CB.cells (x := x) L_10.out.X
      go_wp2_with fail
      refine (Passed_any b x oa cap or m cr r most _ (by omega) hcap (HT.out.mono L_10.out.low) (by omega) (HR.out.mono L_10.out.low)).mono ?_
      rintro e w11 ⟨o2, p2, rfl, hS2, hb11⟩
      clear b0 b1 b2 b3 b4 b5 b6 b7 c0 c1 c2 c3 c4 c5 c6
      have L_11 := Lib.hid (L_10.out.below hb11)
      have HS1_1 := Lib.hid (HS1_0.out.mono hb11)
      clear L_10 HS1_0 hb11
      have HS2_0 := Lib.hid hS2
      clear hS2
      have TF := testR_form b x m r
      by_cases hte : (b.testR x m r).2 = 0
      case neg =>
        have hpe : passE (b.testR x m r).2 most = (b.testR x m r).2 := if_neg hte
        rw [hpe, cnt_ne hte]
        generalize (b.testR x m r).2 = te at hte ⊢
        have hne : (te != 0) = true := by simpa using hte
        clear hte TF hpe HS1_1 HS2_0
        go_wp2_with fail
        refine (awake_any _).mono ?_
        rintro e wz ⟨rfl, hbz⟩
        go_wp2
        go_ret
        exact ⟨rfl, L_11.out.low.trans (hbz.mono L_11.out.low.size)⟩
      obtain ⟨-, -, tv, tm, trow⟩ := TF.resolve_left (fun h9 => by omega)
      rw [← HV.out] at tv
      rw [hte, tv, cnt_zero] at HS1_1
      rw [hte, tv] at HS2_0
      rw [hte, cnt_zero]
      have HROW := Lib.hid trow
      clear trow hte tv
      have hbw9 := Lib.hid L_11.out.low
      clear L_11
      have HPE := Lib.hid (show passE 0 most = if withinB most 0 10000 then 0 else 2 from if_pos rfl)
      by_cases hmo : withinB most 0 10000 = true
      · have hpe : passE 0 most = 0 := by rw [HPE.out, if_pos hmo]
        simp only [withinB, decide_eq_true_eq] at hmo
        rw [hpe, cnt_zero] at HS2_0
        rw [hpe, cnt_zero]
        clear HPE hpe
        go_wp2_with fail
        obtain ⟨W, hW⟩ : ∃ X, X = w11 := ⟨_, rfl⟩
        rw [← hW] at hbw9 HS1_1 HS2_0 ⊢
        clear hW
        go_loopw [26] (fun v26 wr => ∃ k : Nat, k ≤ m ∧ v26 = .int .i64 k ∧ Below W.heap.size W wr) (fun i _ => m - (intOf i).toNat)
        case atStart => exact ⟨0, Nat.zero_le _, rfl, Below.refl _ _⟩
        case round =>
          obtain ⟨k, hk, rfl, hbr⟩ := hrel
          by_cases hlt : k < m
          · as_aux_lemma =>
            have hki : (k : Int) < (m : Int) := by omega
            have hki0 : (0 : Int) ≤ (k : Int) := by omega
            have hd0 : decide (k < m) = true := by simpa using hlt
            obtain ⟨r0, r1, r2⟩ := HROW.out k hlt
            obtain ⟨i, hi⟩ : ∃ i, i = k % kn := ⟨_, rfl⟩
            have hik : i < kn := by rw [hi]; exact Nat.mod_lt _ hkn
            have hmk : (k : Int) % (kn : Int) = (i : Int) := by rw [hi]; simp
            have hmk2 : (k : Int).tmod (kn : Int) = (i : Int) := by rw [Int.tmod_eq_emod_of_nonneg (by omega)]; exact hmk
            have hi0 : (0 : Int) ≤ (i : Int) := by omega
            have hi1 : (i : Int) < (kn : Int) := by omega
            have hkn0 : (kn : Int) ≠ 0 := by omega
            have hq9 := (HQ.out i hik).1
            clear hi
            obtain ⟨n, hn9⟩ : ∃ n, n = pickV (r k) (q i) := ⟨_, rfl⟩
            have hn1 := pick_in (s := r k) r1 (q i)
            rw [← hn9] at hn1
            have HN := Lib.hid hn9
            clear hn9
            have EIN := err_in (v := v) (s := r k) (low := low) (high := high) (n := n) y1 x1 x2 x3 r0 hn1.1 hn1.2
            have PIN := Lib.hid (fun hmo9 => pass_in (v := v) (s := r k) (low := low) (high := high) (n := n) (most := most) y1 x1 x2 x3 r0 hn1.1 hn1.2 hmo9)
            obtain ⟨dE, hdE⟩ : ∃ d, d = (errF n high).down := ⟨_, rfl⟩
            obtain ⟨uE, huE⟩ : ∃ d, d = (errF n low).up := ⟨_, rfl⟩
            rw [← hdE, ← huE] at EIN
            have HDE := Lib.hid hdE
            have HUE := Lib.hid huE
            clear hdE huE
            obtain ⟨eL, heL⟩ : ∃ d, d = (errR v (r k)).lo := ⟨_, rfl⟩
            obtain ⟨eH, heH⟩ : ∃ d, d = (errR v (r k)).hi := ⟨_, rfl⟩
            rw [← heL, ← heH] at EIN
            have ez1 : decide (dE < eL) = false := by simp; omega
            have ez2 : ¬ eH < uE := by omega
            have ez3 : decide (eH < uE) = false := by simp; omega
            clear EIN
            obtain ⟨bb, off, rfl, hlt0, c0, c1⟩ := (HR.out.mono (hbw9.out.trans (hbr.mono hbw9.out.size))) k hlt
            obtain ⟨-, b7, o7, e7, hlt7, u7⟩ := (HQ.out.mono (hbw9.out.trans (hbr.mono hbw9.out.size))) i hik
            cases e7
            go_wp2_with fail
            have f0 : ∀ W : Aft wr, W.val.cell? ⟨bb, off + k * 2, none⟩ = some (.int .i64 (r k).lo) := fun W => (W.below.cell (p := ⟨bb, off + k * 2, none⟩) hlt0).trans c0
            have f1 : ∀ W : Aft wr, W.val.cell? ⟨bb, off + k * 2 + 1, none⟩ = some (.int .i64 (r k).hi) := fun W => (W.below.cell (p := ⟨bb, off + k * 2 + 1, none⟩) hlt0).trans c1
            have f2 : ∀ W : Aft wr, W.val.cell? ⟨qb, qo + i, none⟩ = some (.int .u32 (q i : Nat)) := fun W => (W.below.cell (p := ⟨qb, qo + i, none⟩) hlt7).trans u7
            have HC := Lib.hid (show ∀ W : Aft wr, Calls Try.prog 26 #[(r k).val, .int .u32 (q i : Nat)] W.val fun e w' => e = .returned (.int .i64 n) ∧ Below W.val.heap.size W.val w' from fun W => by
              rw [HN.out]; exact pick_any (r k) (q i) W.val hq9 r1 (by omega))
            clear c0 c1 u7
            refine wp_region_aft (by kernel_rfl) (by kernel_rfl) ?_
            repeat (go_big_quiet_step ((go_at_call 26; exact aft_call (HC.out _))))
            refine wpQuiet_nil ?_
            intro WA
            obtain ⟨wy, hwy⟩ : ∃ X, X = WA.val := ⟨_, rfl⟩
            have hby := WA.below
            rw [← hwy] at hby ⊢
            clear hwy WA
            clear f0 f1 f2 HC hmk hmk2 hi0 hi1 hkn0
            have hbr1 := hbr.trans (hby.mono hbr.size)
            clear hby
            obtain ⟨wO, hW⟩ : ∃ X, X = wy := ⟨_, rfl⟩
            rw [← hW] at hbr1 ⊢
            clear hW
            go_wp2_with fail
            refine (error_any n high _ (by omega) (by omega)).mono ?_
            rintro e wa ⟨rfl, hba⟩
            go_wp2_with fail
            refine (error_any n low _ (by omega) (by omega)).mono ?_
            rintro e wb ⟨rfl, hbb⟩
            have hbr2 := (hbr1.trans (hba.mono hbr1.size)).trans (hbb.mono (Nat.le_trans hbr1.size hba.size))
            clear hba hbb hbr1
            go_upto_region 29 with fail
            have T28 := Box.new (g := wb.heap.size) #[.int .i64 (10000 * (n - high)), .int .i64 high] 50 wb rfl
            have T29 : Box (wb.heap.size + 1) #[.int .i64 (10000 * (n - low)), .int .i64 low] 50 ((wb.alloc (.cells #[.int .i64 (10000 * (n - high)), .int .i64 high] 50)).alloc (.cells #[.int .i64 (10000 * (n - low)), .int .i64 low] 50)) := Box.new _ _ _ (by simp)
            have hbE : Below wb.heap.size wb ((wb.alloc (.cells #[.int .i64 (10000 * (n - high)), .int .i64 high] 50)).alloc (.cells #[.int .i64 (10000 * (n - low)), .int .i64 low] 50)) := ((Below.refl _ _).alloc (Nat.le_refl _) _).alloc (by simp) _
            have K28 := Lib.hid (T28.old (.cells #[.int .i64 (10000 * (n - low)), .int .i64 low] 50))
            have K29 := Lib.hid T29
            have hbr3 := hbr2.trans (hbE.mono hbr2.size)
            clear T28 T29 hbE hbr2
            obtain ⟨g28, hg⟩ : ∃ n, n = wb.heap.size := ⟨_, rfl⟩
            obtain ⟨wP, hW⟩ : ∃ X, X = (wb.alloc (.cells #[.int .i64 (10000 * (n - high)), .int .i64 high] 50)).alloc (.cells #[.int .i64 (10000 * (n - low)), .int .i64 low] 50) := ⟨_, rfl⟩
            rw [← hW] at K28 K29 hbr3 ⊢
            rw [← hg] at K28 K29 ⊢
            clear hW hg
            obtain ⟨b6, o6, rfl, l6, v0, v1⟩ := (HS1_1.out.mono hbr3) k hlt
            rw [← heL] at v0
            rw [← heH] at v1
            clear heL heH
            have f0 : ∀ W : Aft wP, W.val.cell? ⟨b6, o6 + k * 2, none⟩ = some (.int .i64 eL) := fun W => (W.below.cell (p := ⟨b6, o6 + k * 2, none⟩) l6).trans v0
            have f1 : ∀ W : Aft wP, W.val.cell? ⟨b6, o6 + k * 2 + 1, none⟩ = some (.int .i64 eH) := fun W => (W.below.cell (p := ⟨b6, o6 + k * 2 + 1, none⟩) l6).trans v1
            have f2 : ∀ W : Aft wP, W.val.cell? ⟨g28, 0, none⟩ = some (.int .i64 (10000 * (n - high))) := fun W => (K28.out.below W.below).cell 0 rfl
            have f3 : ∀ W : Aft wP, W.val.cell? ⟨g28, 1, none⟩ = some (.int .i64 high) := fun W => (K28.out.below W.below).cell 1 rfl
            have f4 : ∀ W : Aft wP, W.val.cell? ⟨g28 + 1, 0, none⟩ = some (.int .i64 (10000 * (n - low))) := fun W => (K29.out.below W.below).cell 0 rfl
            have f5 : ∀ W : Aft wP, W.val.cell? ⟨g28 + 1, 1, none⟩ = some (.int .i64 low) := fun W => (K29.out.below W.below).cell 1 rfl
            have HC1 := Lib.hid (show ∀ W : Aft wP, Calls Try.prog 27 #[.agg #[.int .i64 (10000 * (n - high)), .int .i64 high]] W.val fun e w' => e = .returned (.int .i64 dE) ∧ Below W.val.heap.size W.val w' from fun W => by
              rw [HDE.out]; exact down_any (errF n high) W.val (by simp only [errF]; omega) (by simp only [errF]; omega))
            have HC2 := Lib.hid (show ∀ W : Aft wP, Calls Try.prog 28 #[.agg #[.int .i64 (10000 * (n - low)), .int .i64 low]] W.val fun e w' => e = .returned (.int .i64 uE) ∧ Below W.val.heap.size W.val w' from fun W => by
              rw [HUE.out]; exact up_any (errF n low) W.val (by simp only [errF]; omega) (by simp only [errF]; omega))
            clear v0 v1
            refine wp_region_aft (by kernel_rfl) (by kernel_rfl) ?_
            repeat (go_big_quiet_step ((first | (go_at_call 27; exact aft_call (HC1.out _)) | (go_at_call 28; exact aft_call (HC2.out _)))))
            refine wpQuiet_nil ?_
            intro WA
            obtain ⟨wy, hwy⟩ : ∃ X, X = WA.val := ⟨_, rfl⟩
            have hby := WA.below
            rw [← hwy] at hby ⊢
            clear hwy WA
            clear f0 f1 f2 f3 f4 f5 HC1 HC2 HDE HUE
            have hbrQ := hbr3.trans (hby.mono hbr3.size)
            have I28 := Lib.hid (K28.out.below hby)
            have I29 := Lib.hid (K29.out.below hby)
            clear hby hbr3 K28 K29
            obtain ⟨wQ, hW⟩ : ∃ X, X = wy := ⟨_, rfl⟩
            rw [← hW] at hbrQ I28 I29 ⊢
            clear hW
            have K28 := I28
            have K29 := I29
            clear I28 I29
            have mo0 : ¬ most < 0 := by omega
            have V3 : IntKind.i64.wrap (-most) = -most := IntWalk.i64_in _ (by omega)
            have d0 := K28.out.cell 0 rfl
            have d1 := K28.out.cell 1 rfl
            have d2 := K29.out.cell 0 rfl
            have d3 := K29.out.cell 1 rfl
            have dl := K28.out.lt
            have dm := K29.out.lt
            simp only [List.getElem_toArray, List.getElem_cons_zero, List.getElem_cons_succ] at d0 d1 d2 d3
            go_wp2_with fail
            clear d0 d1 d2 d3 dl dm
            have T30 := Box.new (g := wQ.heap.size) #[.int .i64 (-most), .int .i64 1] 50 wQ rfl
            have T31 : Box (wQ.heap.size + 1) #[.int .i64 most, .int .i64 1] 50 ((wQ.alloc (.cells #[.int .i64 (-most), .int .i64 1] 50)).alloc (.cells #[.int .i64 most, .int .i64 1] 50)) := Box.new _ _ _ (by simp)
            have hbE : Below wQ.heap.size wQ ((wQ.alloc (.cells #[.int .i64 (-most), .int .i64 1] 50)).alloc (.cells #[.int .i64 most, .int .i64 1] 50)) := ((Below.refl _ _).alloc (Nat.le_refl _) _).alloc (by simp) _
            have J28 := Lib.hid (K28.out.below hbE)
            have J29 := Lib.hid (K29.out.below hbE)
            have J30 := Lib.hid (T30.old (.cells #[.int .i64 most, .int .i64 1] 50))
            have J31 := Lib.hid T31
            have hbr2 := hbrQ.trans (hbE.mono hbrQ.size)
            clear T30 T31 hbE K28 K29 V3
            obtain ⟨g30, hg⟩ : ∃ n, n = wQ.heap.size := ⟨_, rfl⟩
            obtain ⟨wR, hW⟩ : ∃ X, X = (wQ.alloc (.cells #[.int .i64 (-most), .int .i64 1] 50)).alloc (.cells #[.int .i64 most, .int .i64 1] 50) := ⟨_, rfl⟩
            rw [← hW] at J28 J29 J30 J31 hbr2 ⊢
            rw [← hg] at J30 J31 ⊢
            clear hW hg hbrQ
            have bm1 : -(500000100000000000) ≤ most * high ∧ most * high ≤ 500000100000000000 := by
              have := mulb (a := most) (b := high) (x := 10000) (y := 50000010000000) hmo.1 hmo.2 (by omega) x5; omega
            have bm2 : -(500000100000000000) ≤ most * low ∧ most * low ≤ 500000100000000000 := by
              have := mulb (a := most) (b := low) (x := 10000) (y := 50000010000000) hmo.1 hmo.2 (by omega) (by omega); omega
            have bm3 : -most * high = -(most * high) := Int.neg_mul _ _
            have bm4 : -most * low = -(most * low) := Int.neg_mul _ _
            have HL1 := Lib.hid (fun w => lessF_any (10000 * (n - high)) high (-most) 1 w (by omega) (by omega))
            have HL2 := Lib.hid (fun w => lessF_any most 1 (10000 * (n - low)) low w (by omega) (by omega))
            have HL3 := Lib.hid (fun w => lessF_any (10000 * (n - low)) low (-most) 1 w (by omega) (by omega))
            have HL4 := Lib.hid (fun w => lessF_any most 1 (10000 * (n - high)) high w (by omega) (by omega))
            clear bm1 bm2 bm3 bm4
            have HIN := Lib.hid (show inB n low high most = (!(Frac.lt ⟨10000 * (n - high), high⟩ ⟨-most, 1⟩) && !(Frac.lt ⟨most, 1⟩ ⟨10000 * (n - low), low⟩)) from rfl)
            have HOUT := Lib.hid (show outB n low high most = (Frac.lt ⟨10000 * (n - low), low⟩ ⟨-most, 1⟩ || Frac.lt ⟨most, 1⟩ ⟨10000 * (n - high), high⟩) from rfl)
            generalize Frac.lt ⟨10000 * (n - high), high⟩ ⟨-most, 1⟩ = A1 at HL1 HIN
            generalize Frac.lt ⟨most, 1⟩ ⟨10000 * (n - low), low⟩ = A2 at HL2 HIN
            generalize Frac.lt ⟨10000 * (n - low), low⟩ ⟨-most, 1⟩ = A3 at HL3 HOUT
            generalize Frac.lt ⟨most, 1⟩ ⟨10000 * (n - high), high⟩ = A4 at HL4 HOUT
            refine (HL1.out _).mono ?_
            rintro e wa ⟨rfl, hba⟩
            have d2 := (J29.out.below hba).cell 0 rfl
            have d3 := (J29.out.below hba).cell 1 rfl
            have d6 := (J31.out.below hba).cell 0 rfl
            have d7 := (J31.out.below hba).cell 1 rfl
            simp only [List.getElem_toArray, List.getElem_cons_zero, List.getElem_cons_succ] at d2 d3 d6 d7
            have hbr3 := hbr2.trans (hba.mono hbr2.size)
            have I28 := Lib.hid (J28.out.below hba)
            have I29 := Lib.hid (J29.out.below hba)
            have I30 := Lib.hid (J30.out.below hba)
            have I31 := Lib.hid (J31.out.below hba)
            clear hbr2 hba J28 J29 J30 J31
            cases A1 with
            | true =>
              clear d2 d3 d6 d7
              as_aux_lemma =>
                have d0 := I28.out.cell 0 rfl
                have d1 := I28.out.cell 1 rfl
                have d2 := I29.out.cell 0 rfl
                have d3 := I29.out.cell 1 rfl
                have d4 := I30.out.cell 0 rfl
                have d5 := I30.out.cell 1 rfl
                have d6 := I31.out.cell 0 rfl
                have d7 := I31.out.cell 1 rfl
                simp only [List.getElem_toArray, List.getElem_cons_zero, List.getElem_cons_succ] at d0 d1 d2 d3 d4 d5 d6 d7
                go_wp2_with fail
                refine (HL3.out _).mono ?_
                rintro e wa ⟨rfl, hba⟩
                clear d0 d1 d2 d3 d4 d5 d6 d7
                have d0 := (I28.out.below hba).cell 0 rfl
                have d1 := (I28.out.below hba).cell 1 rfl
                have d6 := (I31.out.below hba).cell 0 rfl
                have d7 := (I31.out.below hba).cell 1 rfl
                simp only [List.getElem_toArray, List.getElem_cons_zero, List.getElem_cons_succ] at d0 d1 d6 d7
                have hbr4 := hbr3.trans (hba.mono hbr3.size)
                clear hbr3 hba I28 I29 I30 I31
                cases A3 with
                | true =>
                  clear d0 d1 d6 d7
                  as_aux_lemma =>
                    obtain ⟨b8, o8, rfl, l8, u8⟩ := (HS2_0.out.mono hbr4) k hlt
                    dsimp only at u8
                    have q1 : (0 : Int) ≤ (k : Int) := by omega
                    have q2 : (k : Int) < (m : Int) := by omega
                    have q3 : k < m := hlt
                    rcases PIN.out hmo with ⟨e1, e2⟩ | ⟨e1, e2⟩ | e1
                    · rw [e1] at u8
                      rw [HOUT.out] at e2
                      first
                        | (exfalso; simp at e2; done)
                        | (clear e1 e2
                           go_wp2_with fail
                           go_roundw
                           case rel => exact ⟨k + 1, by omega, by go_num, hbr4⟩
                           case measure => simp [intOf]; omega)
                    · rw [e1] at u8
                      rw [HIN.out] at e2
                      first
                        | (exfalso; simp at e2; done)
                        | (clear e1 e2
                           go_wp2_with fail
                           go_roundw
                           case rel => exact ⟨k + 1, by omega, by go_num, hbr4⟩
                           case measure => simp [intOf]; omega)
                    · rw [e1] at u8
                      clear e1
                      go_wp2_with fail
                      all_goals
                        go_roundw
                        case rel => exact ⟨k + 1, by omega, by go_num, hbr4⟩
                        case measure => simp [intOf]; omega
                | false =>
                  go_wp2_with fail
                  refine (HL4.out _).mono ?_
                  rintro e wb ⟨rfl, hbb⟩
                  have hbr5 := hbr4.trans (hbb.mono hbr4.size)
                  clear hbr4 hbb d0 d1 d6 d7
                  have hbr4 := hbr5
                  clear hbr5
                  cases A4 with
                  | true =>
                    as_aux_lemma =>
                      obtain ⟨b8, o8, rfl, l8, u8⟩ := (HS2_0.out.mono hbr4) k hlt
                      dsimp only at u8
                      have q1 : (0 : Int) ≤ (k : Int) := by omega
                      have q2 : (k : Int) < (m : Int) := by omega
                      have q3 : k < m := hlt
                      rcases PIN.out hmo with ⟨e1, e2⟩ | ⟨e1, e2⟩ | e1
                      · rw [e1] at u8
                        rw [HOUT.out] at e2
                        first
                          | (exfalso; simp at e2; done)
                          | (clear e1 e2
                             go_wp2_with fail
                             go_roundw
                             case rel => exact ⟨k + 1, by omega, by go_num, hbr4⟩
                             case measure => simp [intOf]; omega)
                      · rw [e1] at u8
                        rw [HIN.out] at e2
                        first
                          | (exfalso; simp at e2; done)
                          | (clear e1 e2
                             go_wp2_with fail
                             go_roundw
                             case rel => exact ⟨k + 1, by omega, by go_num, hbr4⟩
                             case measure => simp [intOf]; omega)
                      · rw [e1] at u8
                        clear e1
                        go_wp2_with fail
                        all_goals
                          go_roundw
                          case rel => exact ⟨k + 1, by omega, by go_num, hbr4⟩
                          case measure => simp [intOf]; omega
                  | false =>
                    as_aux_lemma =>
                      obtain ⟨b8, o8, rfl, l8, u8⟩ := (HS2_0.out.mono hbr4) k hlt
                      dsimp only at u8
                      have q1 : (0 : Int) ≤ (k : Int) := by omega
                      have q2 : (k : Int) < (m : Int) := by omega
                      have q3 : k < m := hlt
                      rcases PIN.out hmo with ⟨e1, e2⟩ | ⟨e1, e2⟩ | e1
                      · rw [e1] at u8
                        rw [HOUT.out] at e2
                        first
                          | (exfalso; simp at e2; done)
                          | (clear e1 e2
                             go_wp2_with fail
                             go_roundw
                             case rel => exact ⟨k + 1, by omega, by go_num, hbr4⟩
                             case measure => simp [intOf]; omega)
                      · rw [e1] at u8
                        rw [HIN.out] at e2
                        first
                          | (exfalso; simp at e2; done)
                          | (clear e1 e2
                             go_wp2_with fail
                             go_roundw
                             case rel => exact ⟨k + 1, by omega, by go_num, hbr4⟩
                             case measure => simp [intOf]; omega)
                      · rw [e1] at u8
                        clear e1
                        go_wp2_with fail
                        all_goals
                          go_roundw
                          case rel => exact ⟨k + 1, by omega, by go_num, hbr4⟩
                          case measure => simp [intOf]; omega
            | false =>
              go_wp2_with fail
              refine (HL2.out _).mono ?_
              rintro e wb ⟨rfl, hbb⟩
              clear d2 d3 d6 d7
              have hbr9 := hbr3.trans (hbb.mono hbr3.size)
              have J28 := Lib.hid (I28.out.below hbb)
              have J29 := Lib.hid (I29.out.below hbb)
              have J30 := Lib.hid (I30.out.below hbb)
              have J31 := Lib.hid (I31.out.below hbb)
              clear hbr3 hbb I28 I29 I30 I31
              have hbr3 := hbr9
              have I28 := J28
              have I29 := J29
              have I30 := J30
              have I31 := J31
              clear hbr9 J28 J29 J30 J31
              cases A2 with
              | true =>
                as_aux_lemma =>
                  have d0 := I28.out.cell 0 rfl
                  have d1 := I28.out.cell 1 rfl
                  have d2 := I29.out.cell 0 rfl
                  have d3 := I29.out.cell 1 rfl
                  have d4 := I30.out.cell 0 rfl
                  have d5 := I30.out.cell 1 rfl
                  have d6 := I31.out.cell 0 rfl
                  have d7 := I31.out.cell 1 rfl
                  simp only [List.getElem_toArray, List.getElem_cons_zero, List.getElem_cons_succ] at d0 d1 d2 d3 d4 d5 d6 d7
                  go_wp2_with fail
                  refine (HL3.out _).mono ?_
                  rintro e wa ⟨rfl, hba⟩
                  clear d0 d1 d2 d3 d4 d5 d6 d7
                  have d0 := (I28.out.below hba).cell 0 rfl
                  have d1 := (I28.out.below hba).cell 1 rfl
                  have d6 := (I31.out.below hba).cell 0 rfl
                  have d7 := (I31.out.below hba).cell 1 rfl
                  simp only [List.getElem_toArray, List.getElem_cons_zero, List.getElem_cons_succ] at d0 d1 d6 d7
                  have hbr4 := hbr3.trans (hba.mono hbr3.size)
                  clear hbr3 hba I28 I29 I30 I31
                  cases A3 with
                  | true =>
                    clear d0 d1 d6 d7
                    as_aux_lemma =>
                      obtain ⟨b8, o8, rfl, l8, u8⟩ := (HS2_0.out.mono hbr4) k hlt
                      dsimp only at u8
                      have q1 : (0 : Int) ≤ (k : Int) := by omega
                      have q2 : (k : Int) < (m : Int) := by omega
                      have q3 : k < m := hlt
                      rcases PIN.out hmo with ⟨e1, e2⟩ | ⟨e1, e2⟩ | e1
                      · rw [e1] at u8
                        rw [HOUT.out] at e2
                        first
                          | (exfalso; simp at e2; done)
                          | (clear e1 e2
                             go_wp2_with fail
                             go_roundw
                             case rel => exact ⟨k + 1, by omega, by go_num, hbr4⟩
                             case measure => simp [intOf]; omega)
                      · rw [e1] at u8
                        rw [HIN.out] at e2
                        first
                          | (exfalso; simp at e2; done)
                          | (clear e1 e2
                             go_wp2_with fail
                             go_roundw
                             case rel => exact ⟨k + 1, by omega, by go_num, hbr4⟩
                             case measure => simp [intOf]; omega)
                      · rw [e1] at u8
                        clear e1
                        go_wp2_with fail
                        all_goals
                          go_roundw
                          case rel => exact ⟨k + 1, by omega, by go_num, hbr4⟩
                          case measure => simp [intOf]; omega
                  | false =>
                    go_wp2_with fail
                    refine (HL4.out _).mono ?_
                    rintro e wb ⟨rfl, hbb⟩
                    have hbr5 := hbr4.trans (hbb.mono hbr4.size)
                    clear hbr4 hbb d0 d1 d6 d7
                    have hbr4 := hbr5
                    clear hbr5
                    cases A4 with
                    | true =>
                      as_aux_lemma =>
                        obtain ⟨b8, o8, rfl, l8, u8⟩ := (HS2_0.out.mono hbr4) k hlt
                        dsimp only at u8
                        have q1 : (0 : Int) ≤ (k : Int) := by omega
                        have q2 : (k : Int) < (m : Int) := by omega
                        have q3 : k < m := hlt
                        rcases PIN.out hmo with ⟨e1, e2⟩ | ⟨e1, e2⟩ | e1
                        · rw [e1] at u8
                          rw [HOUT.out] at e2
                          first
                            | (exfalso; simp at e2; done)
                            | (clear e1 e2
                               go_wp2_with fail
                               go_roundw
                               case rel => exact ⟨k + 1, by omega, by go_num, hbr4⟩
                               case measure => simp [intOf]; omega)
                        · rw [e1] at u8
                          rw [HIN.out] at e2
                          first
                            | (exfalso; simp at e2; done)
                            | (clear e1 e2
                               go_wp2_with fail
                               go_roundw
                               case rel => exact ⟨k + 1, by omega, by go_num, hbr4⟩
                               case measure => simp [intOf]; omega)
                        · rw [e1] at u8
                          clear e1
                          go_wp2_with fail
                          all_goals
                            go_roundw
                            case rel => exact ⟨k + 1, by omega, by go_num, hbr4⟩
                            case measure => simp [intOf]; omega
                    | false =>
                      as_aux_lemma =>
                        obtain ⟨b8, o8, rfl, l8, u8⟩ := (HS2_0.out.mono hbr4) k hlt
                        dsimp only at u8
                        have q1 : (0 : Int) ≤ (k : Int) := by omega
                        have q2 : (k : Int) < (m : Int) := by omega
                        have q3 : k < m := hlt
                        rcases PIN.out hmo with ⟨e1, e2⟩ | ⟨e1, e2⟩ | e1
                        · rw [e1] at u8
                          rw [HOUT.out] at e2
                          first
                            | (exfalso; simp at e2; done)
                            | (clear e1 e2
                               go_wp2_with fail
                               go_roundw
                               case rel => exact ⟨k + 1, by omega, by go_num, hbr4⟩
                               case measure => simp [intOf]; omega)
                        · rw [e1] at u8
                          rw [HIN.out] at e2
                          first
                            | (exfalso; simp at e2; done)
                            | (clear e1 e2
                               go_wp2_with fail
                               go_roundw
                               case rel => exact ⟨k + 1, by omega, by go_num, hbr4⟩
                               case measure => simp [intOf]; omega)
                        · rw [e1] at u8
                          clear e1
                          go_wp2_with fail
                          all_goals
                            go_roundw
                            case rel => exact ⟨k + 1, by omega, by go_num, hbr4⟩
                            case measure => simp [intOf]; omega
              | false =>
                as_aux_lemma =>
                  have d0 := I28.out.cell 0 rfl
                  have d1 := I28.out.cell 1 rfl
                  have d2 := I29.out.cell 0 rfl
                  have d3 := I29.out.cell 1 rfl
                  have d4 := I30.out.cell 0 rfl
                  have d5 := I30.out.cell 1 rfl
                  have d6 := I31.out.cell 0 rfl
                  have d7 := I31.out.cell 1 rfl
                  simp only [List.getElem_toArray, List.getElem_cons_zero, List.getElem_cons_succ] at d0 d1 d2 d3 d4 d5 d6 d7
                  go_wp2_with fail
                  refine (HL3.out _).mono ?_
                  rintro e wa ⟨rfl, hba⟩
                  clear d0 d1 d2 d3 d4 d5 d6 d7
                  have d0 := (I28.out.below hba).cell 0 rfl
                  have d1 := (I28.out.below hba).cell 1 rfl
                  have d6 := (I31.out.below hba).cell 0 rfl
                  have d7 := (I31.out.below hba).cell 1 rfl
                  simp only [List.getElem_toArray, List.getElem_cons_zero, List.getElem_cons_succ] at d0 d1 d6 d7
                  have hbr4 := hbr3.trans (hba.mono hbr3.size)
                  clear hbr3 hba I28 I29 I30 I31
                  cases A3 with
                  | true =>
                    clear d0 d1 d6 d7
                    as_aux_lemma =>
                      obtain ⟨b8, o8, rfl, l8, u8⟩ := (HS2_0.out.mono hbr4) k hlt
                      dsimp only at u8
                      have q1 : (0 : Int) ≤ (k : Int) := by omega
                      have q2 : (k : Int) < (m : Int) := by omega
                      have q3 : k < m := hlt
                      rcases PIN.out hmo with ⟨e1, e2⟩ | ⟨e1, e2⟩ | e1
                      · rw [e1] at u8
                        rw [HOUT.out] at e2
                        first
                          | (exfalso; simp at e2; done)
                          | (clear e1 e2
                             go_wp2_with fail
                             go_roundw
                             case rel => exact ⟨k + 1, by omega, by go_num, hbr4⟩
                             case measure => simp [intOf]; omega)
                      · rw [e1] at u8
                        rw [HIN.out] at e2
                        first
                          | (exfalso; simp at e2; done)
                          | (clear e1 e2
                             go_wp2_with fail
                             go_roundw
                             case rel => exact ⟨k + 1, by omega, by go_num, hbr4⟩
                             case measure => simp [intOf]; omega)
                      · rw [e1] at u8
                        clear e1
                        go_wp2_with fail
                        all_goals
                          go_roundw
                          case rel => exact ⟨k + 1, by omega, by go_num, hbr4⟩
                          case measure => simp [intOf]; omega
                  | false =>
                    go_wp2_with fail
                    refine (HL4.out _).mono ?_
                    rintro e wb ⟨rfl, hbb⟩
                    have hbr5 := hbr4.trans (hbb.mono hbr4.size)
                    clear hbr4 hbb d0 d1 d6 d7
                    have hbr4 := hbr5
                    clear hbr5
                    cases A4 with
                    | true =>
                      as_aux_lemma =>
                        obtain ⟨b8, o8, rfl, l8, u8⟩ := (HS2_0.out.mono hbr4) k hlt
                        dsimp only at u8
                        have q1 : (0 : Int) ≤ (k : Int) := by omega
                        have q2 : (k : Int) < (m : Int) := by omega
                        have q3 : k < m := hlt
                        rcases PIN.out hmo with ⟨e1, e2⟩ | ⟨e1, e2⟩ | e1
                        · rw [e1] at u8
                          rw [HOUT.out] at e2
                          first
                            | (exfalso; simp at e2; done)
                            | (clear e1 e2
                               go_wp2_with fail
                               go_roundw
                               case rel => exact ⟨k + 1, by omega, by go_num, hbr4⟩
                               case measure => simp [intOf]; omega)
                        · rw [e1] at u8
                          rw [HIN.out] at e2
                          first
                            | (exfalso; simp at e2; done)
                            | (clear e1 e2
                               go_wp2_with fail
                               go_roundw
                               case rel => exact ⟨k + 1, by omega, by go_num, hbr4⟩
                               case measure => simp [intOf]; omega)
                        · rw [e1] at u8
                          clear e1
                          go_wp2_with fail
                          all_goals
                            go_roundw
                            case rel => exact ⟨k + 1, by omega, by go_num, hbr4⟩
                            case measure => simp [intOf]; omega
                    | false =>
                      as_aux_lemma =>
                        obtain ⟨b8, o8, rfl, l8, u8⟩ := (HS2_0.out.mono hbr4) k hlt
                        dsimp only at u8
                        have q1 : (0 : Int) ≤ (k : Int) := by omega
                        have q2 : (k : Int) < (m : Int) := by omega
                        have q3 : k < m := hlt
                        rcases PIN.out hmo with ⟨e1, e2⟩ | ⟨e1, e2⟩ | e1
                        · rw [e1] at u8
                          rw [HOUT.out] at e2
                          first
                            | (exfalso; simp at e2; done)
                            | (clear e1 e2
                               go_wp2_with fail
                               go_roundw
                               case rel => exact ⟨k + 1, by omega, by go_num, hbr4⟩
                               case measure => simp [intOf]; omega)
                        · rw [e1] at u8
                          rw [HIN.out] at e2
                          first
                            | (exfalso; simp at e2; done)
                            | (clear e1 e2
                               go_wp2_with fail
                               go_roundw
                               case rel => exact ⟨k + 1, by omega, by go_num, hbr4⟩
                               case measure => simp [intOf]; omega)
                        · rw [e1] at u8
                          clear e1
                          go_wp2_with fail
                          all_goals
                            go_roundw
                            case rel => exact ⟨k + 1, by omega, by go_num, hbr4⟩
                            case measure => simp [intOf]; omega
          · skip
            have hd0 : decide (k < m) = false := by simpa using hlt
            have hd1 : ¬ (k : Int) < (m : Int) := by omega
            go_wp2_with fail
            refine (awake_any _).mono ?_
            rintro e wz ⟨rfl, hbz⟩
            go_wp2
            go_ret
            exact ⟨rfl, (hbw9.out.trans (hbr.mono hbw9.out.size)).trans (hbz.mono (Nat.le_trans hbw9.out.size hbr.size))⟩
      · have hpe : passE 0 most = 2 := by rw [HPE.out, if_neg hmo]
        rw [hpe, cnt_ne (by omega)]
        clear HPE hpe HS2_0
        go_wp2_with fail
        obtain ⟨W, hW⟩ : ∃ X, X = w11 := ⟨_, rfl⟩
        rw [← hW] at hbw9 HS1_1 ⊢
        clear hW
        go_loopw [26] (fun v26 wr => ∃ k : Nat, k ≤ m ∧ v26 = .int .i64 k ∧ Below W.heap.size W wr) (fun i _ => m - (intOf i).toNat)
        case atStart => exact ⟨0, Nat.zero_le _, rfl, Below.refl _ _⟩
        case round =>
          obtain ⟨k, hk, rfl, hbr⟩ := hrel
          by_cases hlt : k < m
          · as_aux_lemma =>
            have hki : (k : Int) < (m : Int) := by omega
            have hki0 : (0 : Int) ≤ (k : Int) := by omega
            have hd0 : decide (k < m) = true := by simpa using hlt
            obtain ⟨r0, r1, r2⟩ := HROW.out k hlt
            obtain ⟨i, hi⟩ : ∃ i, i = k % kn := ⟨_, rfl⟩
            have hik : i < kn := by rw [hi]; exact Nat.mod_lt _ hkn
            have hmk : (k : Int) % (kn : Int) = (i : Int) := by rw [hi]; simp
            have hmk2 : (k : Int).tmod (kn : Int) = (i : Int) := by rw [Int.tmod_eq_emod_of_nonneg (by omega)]; exact hmk
            have hi0 : (0 : Int) ≤ (i : Int) := by omega
            have hi1 : (i : Int) < (kn : Int) := by omega
            have hkn0 : (kn : Int) ≠ 0 := by omega
            have hq9 := (HQ.out i hik).1
            clear hi
            obtain ⟨n, hn9⟩ : ∃ n, n = pickV (r k) (q i) := ⟨_, rfl⟩
            have hn1 := pick_in (s := r k) r1 (q i)
            rw [← hn9] at hn1
            have HN := Lib.hid hn9
            clear hn9
            have EIN := err_in (v := v) (s := r k) (low := low) (high := high) (n := n) y1 x1 x2 x3 r0 hn1.1 hn1.2
            have PIN := Lib.hid (fun hmo9 => pass_in (v := v) (s := r k) (low := low) (high := high) (n := n) (most := most) y1 x1 x2 x3 r0 hn1.1 hn1.2 hmo9)
            obtain ⟨dE, hdE⟩ : ∃ d, d = (errF n high).down := ⟨_, rfl⟩
            obtain ⟨uE, huE⟩ : ∃ d, d = (errF n low).up := ⟨_, rfl⟩
            rw [← hdE, ← huE] at EIN
            have HDE := Lib.hid hdE
            have HUE := Lib.hid huE
            clear hdE huE
            obtain ⟨eL, heL⟩ : ∃ d, d = (errR v (r k)).lo := ⟨_, rfl⟩
            obtain ⟨eH, heH⟩ : ∃ d, d = (errR v (r k)).hi := ⟨_, rfl⟩
            rw [← heL, ← heH] at EIN
            have ez1 : decide (dE < eL) = false := by simp; omega
            have ez2 : ¬ eH < uE := by omega
            have ez3 : decide (eH < uE) = false := by simp; omega
            clear EIN
            obtain ⟨bb, off, rfl, hlt0, c0, c1⟩ := (HR.out.mono (hbw9.out.trans (hbr.mono hbw9.out.size))) k hlt
            obtain ⟨-, b7, o7, e7, hlt7, u7⟩ := (HQ.out.mono (hbw9.out.trans (hbr.mono hbw9.out.size))) i hik
            cases e7
            go_wp2_with fail
            have f0 : ∀ W : Aft wr, W.val.cell? ⟨bb, off + k * 2, none⟩ = some (.int .i64 (r k).lo) := fun W => (W.below.cell (p := ⟨bb, off + k * 2, none⟩) hlt0).trans c0
            have f1 : ∀ W : Aft wr, W.val.cell? ⟨bb, off + k * 2 + 1, none⟩ = some (.int .i64 (r k).hi) := fun W => (W.below.cell (p := ⟨bb, off + k * 2 + 1, none⟩) hlt0).trans c1
            have f2 : ∀ W : Aft wr, W.val.cell? ⟨qb, qo + i, none⟩ = some (.int .u32 (q i : Nat)) := fun W => (W.below.cell (p := ⟨qb, qo + i, none⟩) hlt7).trans u7
            have HC := Lib.hid (show ∀ W : Aft wr, Calls Try.prog 26 #[(r k).val, .int .u32 (q i : Nat)] W.val fun e w' => e = .returned (.int .i64 n) ∧ Below W.val.heap.size W.val w' from fun W => by
              rw [HN.out]; exact pick_any (r k) (q i) W.val hq9 r1 (by omega))
            clear c0 c1 u7
            refine wp_region_aft (by kernel_rfl) (by kernel_rfl) ?_
            repeat (go_big_quiet_step ((go_at_call 26; exact aft_call (HC.out _))))
            refine wpQuiet_nil ?_
            intro WA
            obtain ⟨wy, hwy⟩ : ∃ X, X = WA.val := ⟨_, rfl⟩
            have hby := WA.below
            rw [← hwy] at hby ⊢
            clear hwy WA
            clear f0 f1 f2 HC hmk hmk2 hi0 hi1 hkn0
            have hbr1 := hbr.trans (hby.mono hbr.size)
            clear hby
            obtain ⟨wO, hW⟩ : ∃ X, X = wy := ⟨_, rfl⟩
            rw [← hW] at hbr1 ⊢
            clear hW
            go_wp2_with fail
            refine (error_any n high _ (by omega) (by omega)).mono ?_
            rintro e wa ⟨rfl, hba⟩
            go_wp2_with fail
            refine (error_any n low _ (by omega) (by omega)).mono ?_
            rintro e wb ⟨rfl, hbb⟩
            have hbr2 := (hbr1.trans (hba.mono hbr1.size)).trans (hbb.mono (Nat.le_trans hbr1.size hba.size))
            clear hba hbb hbr1
            go_upto_region 29 with fail
            have T28 := Box.new (g := wb.heap.size) #[.int .i64 (10000 * (n - high)), .int .i64 high] 50 wb rfl
            have T29 : Box (wb.heap.size + 1) #[.int .i64 (10000 * (n - low)), .int .i64 low] 50 ((wb.alloc (.cells #[.int .i64 (10000 * (n - high)), .int .i64 high] 50)).alloc (.cells #[.int .i64 (10000 * (n - low)), .int .i64 low] 50)) := Box.new _ _ _ (by simp)
            have hbE : Below wb.heap.size wb ((wb.alloc (.cells #[.int .i64 (10000 * (n - high)), .int .i64 high] 50)).alloc (.cells #[.int .i64 (10000 * (n - low)), .int .i64 low] 50)) := ((Below.refl _ _).alloc (Nat.le_refl _) _).alloc (by simp) _
            have K28 := Lib.hid (T28.old (.cells #[.int .i64 (10000 * (n - low)), .int .i64 low] 50))
            have K29 := Lib.hid T29
            have hbr3 := hbr2.trans (hbE.mono hbr2.size)
            clear T28 T29 hbE hbr2
            obtain ⟨g28, hg⟩ : ∃ n, n = wb.heap.size := ⟨_, rfl⟩
            obtain ⟨wP, hW⟩ : ∃ X, X = (wb.alloc (.cells #[.int .i64 (10000 * (n - high)), .int .i64 high] 50)).alloc (.cells #[.int .i64 (10000 * (n - low)), .int .i64 low] 50) := ⟨_, rfl⟩
            rw [← hW] at K28 K29 hbr3 ⊢
            rw [← hg] at K28 K29 ⊢
            clear hW hg
            obtain ⟨b6, o6, rfl, l6, v0, v1⟩ := (HS1_1.out.mono hbr3) k hlt
            rw [← heL] at v0
            rw [← heH] at v1
            clear heL heH
            have f0 : ∀ W : Aft wP, W.val.cell? ⟨b6, o6 + k * 2, none⟩ = some (.int .i64 eL) := fun W => (W.below.cell (p := ⟨b6, o6 + k * 2, none⟩) l6).trans v0
            have f1 : ∀ W : Aft wP, W.val.cell? ⟨b6, o6 + k * 2 + 1, none⟩ = some (.int .i64 eH) := fun W => (W.below.cell (p := ⟨b6, o6 + k * 2 + 1, none⟩) l6).trans v1
            have f2 : ∀ W : Aft wP, W.val.cell? ⟨g28, 0, none⟩ = some (.int .i64 (10000 * (n - high))) := fun W => (K28.out.below W.below).cell 0 rfl
            have f3 : ∀ W : Aft wP, W.val.cell? ⟨g28, 1, none⟩ = some (.int .i64 high) := fun W => (K28.out.below W.below).cell 1 rfl
            have f4 : ∀ W : Aft wP, W.val.cell? ⟨g28 + 1, 0, none⟩ = some (.int .i64 (10000 * (n - low))) := fun W => (K29.out.below W.below).cell 0 rfl
            have f5 : ∀ W : Aft wP, W.val.cell? ⟨g28 + 1, 1, none⟩ = some (.int .i64 low) := fun W => (K29.out.below W.below).cell 1 rfl
            have HC1 := Lib.hid (show ∀ W : Aft wP, Calls Try.prog 27 #[.agg #[.int .i64 (10000 * (n - high)), .int .i64 high]] W.val fun e w' => e = .returned (.int .i64 dE) ∧ Below W.val.heap.size W.val w' from fun W => by
              rw [HDE.out]; exact down_any (errF n high) W.val (by simp only [errF]; omega) (by simp only [errF]; omega))
            have HC2 := Lib.hid (show ∀ W : Aft wP, Calls Try.prog 28 #[.agg #[.int .i64 (10000 * (n - low)), .int .i64 low]] W.val fun e w' => e = .returned (.int .i64 uE) ∧ Below W.val.heap.size W.val w' from fun W => by
              rw [HUE.out]; exact up_any (errF n low) W.val (by simp only [errF]; omega) (by simp only [errF]; omega))
            clear v0 v1
            refine wp_region_aft (by kernel_rfl) (by kernel_rfl) ?_
            repeat (go_big_quiet_step ((first | (go_at_call 27; exact aft_call (HC1.out _)) | (go_at_call 28; exact aft_call (HC2.out _)))))
            refine wpQuiet_nil ?_
            intro WA
            obtain ⟨wy, hwy⟩ : ∃ X, X = WA.val := ⟨_, rfl⟩
            have hby := WA.below
            rw [← hwy] at hby ⊢
            clear hwy WA
            clear f0 f1 f2 f3 f4 f5 HC1 HC2 HDE HUE
            have hbrQ := hbr3.trans (hby.mono hbr3.size)
            have I28 := Lib.hid (K28.out.below hby)
            have I29 := Lib.hid (K29.out.below hby)
            clear hby hbr3 K28 K29
            obtain ⟨wQ, hW⟩ : ∃ X, X = wy := ⟨_, rfl⟩
            rw [← hW] at hbrQ I28 I29 ⊢
            clear hW
            have K28 := I28
            have K29 := I29
            clear I28 I29
            go_wp2_with fail
            go_roundw
            case rel => exact ⟨k + 1, by omega, by go_num, hbrQ⟩
            case measure => simp [intOf]; omega
          · skip
            have hd0 : decide (k < m) = false := by simpa using hlt
            have hd1 : ¬ (k : Int) < (m : Int) := by omega
            go_wp2_with fail
            refine (awake_any _).mono ?_
            rintro e wz ⟨rfl, hbz⟩
            go_wp2
            go_ret
            exact ⟨rfl, (hbw9.out.trans (hbr.mono hbw9.out.size)).trans (hbz.mono (Nat.le_trans hbw9.out.size hbr.size))⟩
end Go.Proofs.Ythoefcpeagclbaa
