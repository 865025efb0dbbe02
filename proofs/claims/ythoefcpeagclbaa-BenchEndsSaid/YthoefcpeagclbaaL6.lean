/- The walk of BenchEnds. -/
import Derived.Test.YthoefcpeagclbaaLv
import Derived.Test.YthoefcpeagclbaaP13
import Derived.Test.YthoefcpeagclbaaGarb3
namespace Go.Proofs.Ythoefcpeagclbaa
open Go.RowKit
theorem water_bounds {b : Bnch} {x : Ctch} (h : (b.waterR x).2 = 0) : (0 ≤ b.off ∧ b.off ≤ 10000000) ∧ (0 ≤ x.beg.lo ∧ x.beg.lo ≤ x.beg.hi ∧ x.beg.hi ≤ 10000000) ∧ (0 ≤ x.fin.lo ∧ x.fin.lo ≤ x.fin.hi ∧ x.fin.hi ≤ 10000000) ∧ (0 ≤ b.buoy.lo ∧ b.buoy.lo ≤ b.buoy.hi ∧ b.buoy.hi ≤ 10000) ∧
    (b.weighs = true → (b.t 0).at_ ≤ x.warm.lo ∧ x.warm.lo ≤ x.warm.hi ∧ x.warm.hi ≤ (b.t (b.n - 1)).at_ ∧ 0 ≤ x.warm.lo ∧ x.warm.hi ≤ 10000) ∧
    (b.weighs = false → ((b.t 0).at_ ≤ x.beg.lo ∧ x.beg.hi ≤ (b.t (b.n - 1)).at_) ∧ (b.t 0).at_ ≤ x.fin.lo ∧ x.fin.hi ≤ (b.t (b.n - 1)).at_) := by
  obtain ⟨hv, hr, -, -, -⟩ := waterR_ok h
  have hV := valid_tab hv
  obtain ⟨-, hn1, hn2, ho, hbu, -⟩ := valid_all hv
  have a0 := hV.at0 0 (by omega)
  have a1 := hV.at1 (b.n - 1) (by omega)
  unfold Bnch.rightB at hr
  by_cases hw : b.weighs = true
  · rw [if_pos hw] at hr
    have hr3 : ((0 ≤ x.beg.lo ∧ x.beg.lo ≤ x.beg.hi ∧ x.beg.hi ≤ 10000000) ∧ (0 ≤ x.fin.lo ∧ x.fin.lo ≤ x.fin.hi ∧ x.fin.hi ≤ 10000000)) ∧ ((b.t 0).at_ ≤ x.warm.lo ∧ x.warm.lo ≤ x.warm.hi ∧ x.warm.hi ≤ (b.t (b.n - 1)).at_) := by
      simp only [Bnch.scaleOk, spanB, Bool.and_eq_true, decide_eq_true_eq] at hr
      exact hr
    obtain ⟨⟨⟨r1, r2, r3⟩, r4, r5, r6⟩, r7, r8, r9⟩ := hr3
    exact ⟨ho, ⟨r1, r2, r3⟩, ⟨r4, r5, r6⟩, hbu, fun _ => ⟨r7, r8, r9, by omega, by omega⟩, fun h9 => by rw [hw] at h9; cases h9⟩
  · rw [if_neg hw] at hr
    have hr3 : ((b.t 0).at_ ≤ x.beg.lo ∧ x.beg.lo ≤ x.beg.hi ∧ x.beg.hi ≤ (b.t (b.n - 1)).at_) ∧ ((b.t 0).at_ ≤ x.fin.lo ∧ x.fin.lo ≤ x.fin.hi ∧ x.fin.hi ≤ (b.t (b.n - 1)).at_) := by
      simp only [Bnch.tankOk, spanB, Bool.and_eq_true, decide_eq_true_eq] at hr
      exact hr
    obtain ⟨⟨r1, r2, r3⟩, r4, r5, r6⟩ := hr3
    exact ⟨ho, ⟨by omega, r2, by omega⟩, ⟨by omega, r5, by omega⟩, hbu, fun h9 => absurd h9 hw, fun _ => ⟨⟨r1, r3⟩, r4, r6⟩⟩
theorem stash2 {G : Prop} (F : Nat → Nat → World → Prop) {R : Nat → Nat → World → Prop} (h : (∀ gb gc wz, F gb gc wz → R gb gc wz) → G) (hp : ∀ gb gc wz, F gb gc wz → R gb gc wz) : G := h hp
theorem flow_ok {b : Bnch} {x : Ctch} {s : Spn} (h : (b.flowR x s).2 = 0) : spanB s 1 100000000 = true ∧ (b.flowR x s).1 = ⟨rnd 0 ((b.waterR x).1.lo * 3600) s.hi, rnd 1 ((b.waterR x).1.hi * 3600) s.lo⟩ := by
  unfold Bnch.flowR at h ⊢
  by_cases h1 : (b.waterR x).2 = 0
  · rw [if_pos h1] at h ⊢
    by_cases h2 : spanB s 1 100000000 = true
    · rw [if_pos h2]; exact ⟨h2, rfl⟩
    · rw [if_neg h2] at h; simp at h
  · rw [if_neg h1] at h; exact absurd h h1
def lowK (b : Bnch) (x : Ctch) (f : Nat → Int) (k : Nat) : Int := if b.weighs then leastR (fun j => ((lowB b).waterR (scX (b.light x) (f j))).1.lo) k else if k = 0 then 0 else (b.waterR x).1.lo
def highK (b : Bnch) (x : Ctch) (f : Nat → Int) (k : Nat) : Int := if b.weighs then mostR (fun j => ((highB b).waterR (scX (b.heavy x) (f j))).1.hi) k else if k = 0 then 0 else (b.waterR x).1.hi
theorem ends_K {b : Bnch} {x : Ctch} {k : Nat} (h : (b.waterR x).2 = 0) (hk : k = if b.weighs then b.n else 0) (hh : b.weighs = true → b.heavy x ≤ 10000000) :
    lowK b x (fun i => (allL b x k).getD i 0) (allL b x k).length = (b.waterR x).1.lo ∧ highK b x (fun i => (allL b x k).getD i 0) (allL b x k).length = (b.waterR x).1.hi := by
  unfold lowK highK
  have h2 := allL_two b x k
  by_cases hw : b.weighs = true
  · rw [if_pos hw] at hk
    subst hk
    rw [if_pos hw, if_pos hw]
    exact scale_loop h hw (hh hw)
  · rw [if_neg hw, if_neg hw, if_neg (by omega), if_neg (by omega)]
    exact ⟨rfl, rfl⟩
theorem lowK_succ {b : Bnch} {x : Ctch} {f : Nat → Int} {k : Nat} (hw : b.weighs = true) : lowK b x f (k + 1) = if k = 0 ∨ ((lowB b).waterR (scX (b.light x) (f k))).1.lo < lowK b x f k then ((lowB b).waterR (scX (b.light x) (f k))).1.lo else lowK b x f k := by
  unfold lowK; rw [if_pos hw, if_pos hw]; rfl
theorem highK_succ {b : Bnch} {x : Ctch} {f : Nat → Int} {k : Nat} (hw : b.weighs = true) : highK b x f (k + 1) = max (highK b x f k) ((highB b).waterR (scX (b.heavy x) (f k))).1.hi := by
  unfold highK; rw [if_pos hw, if_pos hw]; rfl
theorem lowK_tank {b : Bnch} {x : Ctch} {f : Nat → Int} {k : Nat} (hw : b.weighs = false) : lowK b x f (k + 1) = (b.waterR x).1.lo ∧ highK b x f (k + 1) = (b.waterR x).1.hi := by
  unfold lowK highK; rw [if_neg (by rw [hw]; simp), if_neg (by omega), if_neg (by rw [hw]; simp), if_neg (by omega)]; exact ⟨rfl, rfl⟩
/-- two sides by a factor that is at least 1 -/
theorem fac_bd {A t U B : Int} (ht : 1 ≤ t) (h1 : A * t ≤ U) (h2 : U < (A + 1) * t) (hU0 : 0 ≤ U) (hU : U ≤ B) : 0 ≤ A ∧ A ≤ B := by
  have h0 : 0 ≤ A := by
    rcases Int.lt_or_le A 0 with h | h
    · have : (A + 1) * t ≤ 0 := Int.mul_nonpos_of_nonpos_of_nonneg (by omega) (by omega)
      omega
    · exact h
  refine ⟨h0, ?_⟩
  have := Int.mul_le_mul_of_nonneg_left ht h0
  omega
theorem fac_up {A t U B : Int} (hB : 0 ≤ B) (ht : 1 ≤ t) (h1 : U ≤ A * t) (h2 : (A - 1) * t < U) (hU0 : 0 ≤ U) (hU : U ≤ B) : 0 ≤ A ∧ A ≤ B + 1 := by
  have h0 : 0 ≤ A := by
    rcases Int.lt_or_le A 0 with h | h
    · have : A * t ≤ -1 * t := Int.mul_le_mul_of_nonneg_right (by omega) (by omega)
      omega
    · exact h
  refine ⟨h0, ?_⟩
  rcases Int.lt_or_le A 1 with h | h
  · omega
  · have := Int.mul_le_mul_of_nonneg_left ht (show 0 ≤ A - 1 by omega)
    omega
set_option maxRecDepth 100000 in
set_option maxHeartbeats 100000000 in
theorem ends_of (b : Bnch) (x : Ctch) (s : Spn) (oa : Option Addr) (cap : Nat) (or : Option Addr) (m cr : Nat) (r : Nat → Spn) (w : World) (hcap : b.n ≤ cap) (hT : MarksAt w oa b.n b.t) (hm : m ≤ 9223372036854775807) (hR : SpnsAt w or m r) :
    Calls Try.prog 6 #[b.val oa cap, x.val, s.val, .slice or m cr] w (TrueEnd w) := by
  have HT := Lib.hid hT
  have HR := Lib.hid hR
  have HM := Lib.hid hm
  clear hT hR hm
  obtain ⟨iR, hiR, hzR0, hzR1, hzR2⟩ := info_parts (P := Try.prog) (e := 3) (z := .int .i64 0) (size := 1) (bytes := 8) (by kernel_rfl)
  go_enter Try.func6, Try.ntmps6
  go_wp2_with fail
  have hL : Lv w b oa cap x ((two 26 b oa cap x w).alloc (.cells #[.int .i64 s.lo, .int .i64 s.hi] 24)) := ⟨(two_below 26 b oa cap x w).alloc (by simp; omega) _, (two_bench 26 b oa cap x w).old _, (two_catch 26 b oa cap x w).old _⟩
  have hS : SB s 24 (w.heap.size + 1 + 1) ((two 26 b oa cap x w).alloc (.cells #[.int .i64 s.lo, .int .i64 s.hi] 24)) := Box.new _ _ _ (by simp)
  obtain ⟨W, hW⟩ : ∃ X, X = ((two 26 b oa cap x w).alloc (.cells #[.int .i64 s.lo, .int .i64 s.hi] 24)) := ⟨_, rfl⟩
  rw [← hW] at hL hS
  simp only [two] at hW
  rw [← hW]
  clear hW
  have L_0 := Lib.hid hL
  have KS_0 := Lib.hid hS
  clear hL hS
  refine (large_any b oa cap or m cr r 4611686018427387904 _ (HR.out.mono L_0.out.low) HM.out).mono ?_
  rintro e w1 ⟨rfl, hb1⟩
  have L_1 := Lib.hid (L_0.out.below hb1)
  have KS_1 := Lib.hid (KS_0.out.below hb1)
  clear L_0 KS_0 hb1
  rcases hl : largeR b m r 4611686018427387904
  case true =>
    clear hl
    go_wp2_with fail
    refine (awake_any _).mono ?_
    rintro e wz ⟨rfl, hbz⟩
    go_wp2
    go_ret
    exact ⟨rfl, L_1.out.low.trans (hbz.mono L_1.out.low.size)⟩
  have hn := (large_no hl).1
  have hm := (large_no hl).2.1
  clear hl
  obtain ⟨b0, b1, b2, b3, b4, b5, b6, b7⟩ := BB.cells (b := b) L_1.out.B
  obtain ⟨c0, c1, c2, c3, c4, c5, c6⟩ := CB.cells (x := x) L_1.out.X
  go_wp2_with fail
  refine (Water_any b x oa cap _ (by omega) hcap (HT.out.mono L_1.out.low)).mono ?_
  rintro e w2 ⟨rfl, hb2⟩
  by_cases he : (b.waterR x).2 = 0
  case neg =>
    have hv0 : (b.waterR x).1 = ⟨0, 0⟩ := by
      rcases waterR_form b x with h9 | h9
      · exact h9.1
      · exact absurd h9.1 he
    rw [hv0]
    generalize (b.waterR x).2 = e9 at he ⊢
    have hne : (e9 != 0) = true := by simpa using he
    clear he
    have hlz := (L_1.out.low.trans (hb2.mono L_1.out.low.size)).alloc (Nat.le_trans L_1.out.low.size hb2.size) (.cells #[.int .i64 0, .int .i64 0] 24)
    clear hb2
    go_wp2_with fail
    refine (awake_any _).mono ?_
    rintro e wz ⟨rfl, hbz⟩
    go_wp2
    go_ret
    exact ⟨rfl, hlz.trans (hbz.mono hlz.size)⟩
  have HE := Lib.hid he
  rw [he]
  clear he
  have hv1 := (waterR_form b x).resolve_left (fun h9 => by have := HE.out; omega)
  have hv2 := water_le HE.out
  obtain ⟨v, hv⟩ : ∃ v, v = (b.waterR x).1 := ⟨_, rfl⟩
  rw [← hv] at hv1 hv2 ⊢
  obtain ⟨-, y1, y2, -, y4⟩ := hv1
  have HV := Lib.hid hv
  clear hv
  clear b0 b1 b2 b3 b4 b5 b6 b7 c0 c1 c2 c3 c4 c5 c6
  have hbE := hb2.alloc hb2.size (.cells #[.int .i64 v.lo, .int .i64 v.hi] 24)
  have T9 := Box.new (g := w2.heap.size) #[.int .i64 v.lo, .int .i64 v.hi] 24 w2 rfl
  have L_2 := Lib.hid (L_1.out.below hbE)
  have KS_2 := Lib.hid (KS_1.out.below hbE)
  clear L_1 KS_1 hbE
  clear hb2
  go_upto_region 4 with fail
  obtain ⟨gv, hg⟩ : ∃ n, n = w2.heap.size := ⟨_, rfl⟩
  obtain ⟨W2, hW⟩ : ∃ X, X = w2.alloc (.cells #[.int .i64 v.lo, .int .i64 v.hi] 24) := ⟨_, rfl⟩
  rw [← hW] at L_2 KS_2 T9 ⊢
  rw [← hg] at T9 ⊢
  clear hW hg
  have K9_0 := Lib.hid T9
  clear T9
  obtain ⟨b0, b1, b2, b3, b4, b5, b6, b7⟩ := BB.cells (b := b) L_2.out.B
  obtain ⟨c0, c1, c2, c3, c4, c5, c6⟩ := CB.cells (x := x) L_2.out.X
  go_wp2_with fail
  refine (refBench_any b oa cap _ (by omega) (HT.out.mono L_2.out.low)).mono ?_
  rintro e w3 ⟨rfl, hb3⟩
  rw [(waterR_ok HE.out).1]
  have hn1 := (valid_all (waterR_ok HE.out).1).2.1
  clear b0 b1 b2 b3 b4 b5 b6 b7 c0 c1 c2 c3 c4 c5 c6
  have L_3 := Lib.hid (L_2.out.below hb3)
  have KS_3 := Lib.hid (KS_2.out.below hb3)
  have K9_1 := Lib.hid (K9_0.out.below hb3)
  clear L_2 KS_2 K9_0 hb3
  obtain ⟨b0, b1, b2, b3, b4, b5, b6, b7⟩ := BB.cells (b := b) L_3.out.B
  obtain ⟨c0, c1, c2, c3, c4, c5, c6⟩ := CB.cells (x := x) L_3.out.X
  go_wp2_with fail
  refine (refCatch_any b x oa cap _ (by omega) (by omega) (HT.out.mono L_3.out.low)).mono ?_
  rintro e w4 ⟨rfl, hb4⟩
  rw [(waterR_ok HE.out).2.1]
  clear b0 b1 b2 b3 b4 b5 b6 b7 c0 c1 c2 c3 c4 c5 c6
  have L_4 := Lib.hid (L_3.out.below hb4)
  have KS_4 := Lib.hid (KS_3.out.below hb4)
  have K9_2 := Lib.hid (K9_1.out.below hb4)
  clear L_3 KS_3 K9_1 hb4
  obtain ⟨b0, b1, b2, b3, b4, b5, b6, b7⟩ := BB.cells (b := b) L_4.out.B
  obtain ⟨c0, c1, c2, c3, c4, c5, c6⟩ := CB.cells (x := x) L_4.out.X
  go_upto_region 9 with fail
  clear b0 b1 b2 b3 b4 b5 b6 b7 c0 c1 c2 c3 c4 c5 c6
  have own0 := owns_made2 (w := w4) (e := 3) x.warm.lo x.warm.hi
  have hbE := (Below.refl w4.heap.size w4).alloc (Nat.le_refl _) (.cells #[.int .i64 x.warm.lo, .int .i64 x.warm.hi] 3)
  obtain ⟨W5, hW⟩ : ∃ X, X = w4.alloc (.cells #[.int .i64 x.warm.lo, .int .i64 x.warm.hi] 3) := ⟨_, rfl⟩
  rw [← hW] at own0 hbE ⊢
  clear hW
  have HO := Lib.hid own0
  have HB5 := Lib.hid hbE
  clear own0 hbE
  go_wp2_with fail
  go_loopw [11, 12] (fun v11 v12 wr => ∃ k : Nat, k ≤ b.n ∧ (b.weighs = false → k = 0) ∧ v12 = .int .i64 k ∧ wr.ownsRow w4.heap.size 3 1 v11 (allL b x k).length (listNews (allL b x k)) ∧ Below w4.heap.size w4 wr) (fun _ i _ => b.n - (intOf i).toNat)
  case atStart => exact ⟨0, Nat.zero_le _, fun _ => rfl, rfl, HO.out, HB5.out⟩
  case round =>
    obtain ⟨k, hk, hkw, rfl, hown, hb⟩ := hrel
    have HKW := Lib.hid hkw
    have HOW := Lib.hid hown
    clear hkw
    have hlen := allL_length b x k
    have RL := Lib.hid (L_4.out.below hb)
    obtain ⟨oS, cS, rfl, -⟩ := owns_form hown
    clear hown
    obtain ⟨b0, b1, b2, b3, b4, b5, b6, b7⟩ := BB.cells (b := b) RL.out.B
    obtain ⟨c0, c1, c2, c3, c4, c5, c6⟩ := CB.cells (x := x) RL.out.X
    by_cases hgo : k < b.n ∧ b.weighs = true
    · as_aux_lemma =>
      obtain ⟨hlt, hw⟩ := hgo
      rw [hw] at b0
      have HW := Lib.hid hw
      clear hw
      have hd0 : decide (k < b.n) = true := by simpa using hlt
      have hk0 : (0 : Int) ≤ (k : Int) := by omega
      have hk1 : (k : Int) < (b.n : Int) := by omega
      obtain ⟨bb, off, e9, l0, p0, p1'⟩ := (HT.out.mono RL.out.low) k hlt
      have E9 := Lib.hid e9
      clear e9
      rw [E9.out] at b1
      have f0 : ∀ W : Aft wr, W.val.cell? ⟨bb, off + k * 2, none⟩ = some (.int .i64 (b.t k).at_) := fun W => (W.below.cell (p := ⟨bb, off + k * 2, none⟩) l0).trans p0
      have f1 : ∀ W : Aft wr, W.val.cell? ⟨w.heap.size, 1, none⟩ = some (.slice (some ⟨bb, off, none⟩) b.n cap) := fun W => (W.below.cell (p := ⟨w.heap.size, 1, none⟩) b7).trans b1
      have f2 : ∀ W : Aft wr, W.val.cell? ⟨w.heap.size + 1, 4, none⟩ = some (.int .i64 x.warm.lo) := fun W => (W.below.cell (p := ⟨w.heap.size + 1, 4, none⟩) c6).trans c4
      have f3 : ∀ W : Aft wr, W.val.cell? ⟨w.heap.size + 1, 5, none⟩ = some (.int .i64 x.warm.hi) := fun W => (W.below.cell (p := ⟨w.heap.size + 1, 5, none⟩) c6).trans c5
      by_cases hin : withinB (b.t k).at_ x.warm.lo x.warm.hi = true
      · have hin2 := hin
        simp only [withinB, decide_eq_true_eq] at hin2
        have z0 : decide (x.warm.lo ≤ (b.t k).at_) = true := by simpa using hin2.1
        have z1 : decide ((b.t k).at_ ≤ x.warm.hi) = true := by simpa using hin2.2
        have HIN := Lib.hid hin
        clear hin hin2
        go_wp2_with fail
        refine wp_region_aft (by kernel_rfl) (by kernel_rfl) ?_
        repeat (go_big_quiet_step (fail))
        refine wpQuiet_nil ?_
        intro WA
        obtain ⟨wy, hwy⟩ : ∃ X, X = WA.val := ⟨_, rfl⟩
        have hby := WA.below
        rw [← hwy] at hby ⊢
        clear hwy WA
        clear f0 f1 f2 f3 b0 b1 b2 b3 b4 b5 b6 b7 c0 c1 c2 c3 c4 c5 c6
        have HO2 := Lib.hid (owns_below HOW.out hby)
        have RB := RL.out.below hby
        have d1 := RB.B.cell 1 (v := .slice oa b.n cap) rfl
        rw [E9.out] at d1
        have d7 := RB.B.lt
        have m0 := (hby.cell (p := ⟨bb, off + k * 2, none⟩) l0).trans p0
        have m1 : bb < wy.heap.size := Nat.lt_of_lt_of_le l0 hby.size
        have hbY := hb.trans (hby.mono hb.size)
        have hs1 := hbY.size
        clear RB z0 z1 p0 p1' hby
        go_wp2_with (at_builtin; refine wpList_append_gen rfl (.tmp 103) (.tmp 110) _ rfl w4.heap.size 3 iR _ 1 8 Try.underlying39 hiR hzR0 hzR1 hzR2 rfl (by omega) (.slice oS (allL b x k).length cS) (allL b x k).length (listNews (allL b x k)) rfl (some ⟨wy.heap.size, 0, none⟩) 1 1 [.int .i64 (b.t k).at_] rfl (HO2.out.alloc _) (fun e9 => by cases e9) rfl (fun ad9 e9 j9 u9 hu9 => by cases e9; exact news_blk1 (e := 3) (heap_new rfl) hu9) (by simp [Value.oneCell']) (by simp only [maxLen]; omega) (by omega) (by simp; omega) ?_; intro vS wS hownS hgrowS)
        go_roundw
        case rel => exact ⟨k + 1, by omega, fun h9 => (by rw [HW.out] at h9; cases h9), by go_num, by rw [allL_succ, if_pos HIN.out, listNews_snoc, List.length_append]; exact hownS, hbY.trans (((below_alloc1 wy _).mono (by omega)) |>.trans (below_row HO2.out hgrowS (by omega)))⟩
        case measure => simp [intOf]; omega
      · have hin2 := hin
        simp only [withinB, decide_eq_true_eq] at hin2
        have HIN := Lib.hid hin
        clear hin
        by_cases hz : x.warm.lo ≤ (b.t k).at_
        · have z0 : decide (x.warm.lo ≤ (b.t k).at_) = true := by simpa using hz
          have z1 : decide ((b.t k).at_ ≤ x.warm.hi) = false := by simp; omega
          clear hin2 hz
          go_wp2_with fail
          refine wp_region_aft (by kernel_rfl) (by kernel_rfl) ?_
          repeat (go_big_quiet_step (fail))
          refine wpQuiet_nil ?_
          intro WA
          obtain ⟨wy, hwy⟩ : ∃ X, X = WA.val := ⟨_, rfl⟩
          have hby := WA.below
          rw [← hwy] at hby ⊢
          clear hwy WA
          clear f0 f1 f2 f3
          go_wp2_with fail
          go_roundw
          case rel => exact ⟨k + 1, by omega, fun h9 => (by rw [HW.out] at h9; cases h9), by go_num, by rw [allL_succ, if_neg HIN.out]; exact owns_below HOW.out hby, hb.trans (hby.mono hb.size)⟩
          case measure => simp [intOf]; omega
        · have z0 : decide (x.warm.lo ≤ (b.t k).at_) = false := by simp; omega
          clear hin2 hz
          go_wp2_with fail
          refine wp_region_aft (by kernel_rfl) (by kernel_rfl) ?_
          repeat (go_big_quiet_step (fail))
          refine wpQuiet_nil ?_
          intro WA
          obtain ⟨wy, hwy⟩ : ∃ X, X = WA.val := ⟨_, rfl⟩
          have hby := WA.below
          rw [← hwy] at hby ⊢
          clear hwy WA
          clear f0 f1 f2 f3
          go_wp2_with fail
          go_roundw
          case rel => exact ⟨k + 1, by omega, fun h9 => (by rw [HW.out] at h9; cases h9), by go_num, by rw [allL_succ, if_neg HIN.out]; exact owns_below HOW.out hby, hb.trans (hby.mono hb.size)⟩
          case measure => simp [intOf]; omega
    · skip
      have hkN : k = if b.weighs then b.n else 0 := by
        by_cases hw : b.weighs = true
        · rw [if_pos hw]
          rcases Nat.lt_or_ge k b.n with h9 | h9
          · exact absurd ⟨h9, hw⟩ hgo
          · omega
        · rw [if_neg hw]; exact HKW.out (by simpa using hw)
      obtain ⟨oA, cA, e9, hI, -⟩ := owns_list HOW.out
      obtain ⟨rfl, rfl⟩ : oS = oA ∧ cS = cA := by cases e9; exact ⟨rfl, rfl⟩
      clear e9
      have HI := Lib.hid hI
      have HK := Lib.hid hkN
      have two9 := allL_two b x k
      have hz9 : ∀ i, i < (allL b x k).length → b.weighs = true → x.warm.lo ≤ (allL b x k).getD i 0 ∧ (allL b x k).getD i 0 ≤ x.warm.hi := fun i hi hw => by
        have hwr := (water_bounds HE.out).2.2.2.2.1 hw
        exact allL_in (by omega) (by rw [List.getD_eq_getElem?_getD, List.getElem?_eq_getElem hi]; exact List.getElem_mem hi)
      have hEK := fun hh => ends_K HE.out hkN hh
      clear hI hkN
      have hKB := hlen
      obtain ⟨K, hKe⟩ : ∃ K, K = (allL b x k).length := ⟨_, rfl⟩
      obtain ⟨fz, hfz⟩ : ∃ f : Nat → Int, f = fun i => (allL b x k).getD i 0 := ⟨_, rfl⟩
      have hz8 : ∀ i, i < K → b.weighs = true → x.warm.lo ≤ fz i ∧ fz i ≤ x.warm.hi := fun i hi hw => by rw [hfz]; exact hz9 i (by omega) hw
      have hEK2 : (b.weighs = true → b.heavy x ≤ 10000000) → lowK b x fz K = v.lo ∧ highK b x fz K = v.hi := fun hh => by rw [hfz, hKe, HV.out]; exact hEK hh
      have hI2 : IntsAt wr oS K fz := by rw [hfz, hKe]; exact HI.out
      rw [← hKe] at two9 hlen ⊢
      have HZ := Lib.hid hz8
      have HEK := Lib.hid hEK2
      have HIA_0 := Lib.hid hI2
      clear hz8 hEK2 hI2 hz9 hEK HI HOW hKe hfz hKB b0 b1 b2 b3 b4 b5 b6 b7 c0 c1 c2 c3 c4 c5 c6
      obtain ⟨W6, hW⟩ : ∃ X, X = wr := ⟨_, rfl⟩
      rw [← hW] at HIA_0 RL hb ⊢
      clear hW HO HB5
      have L_5 := Lib.hid (L_4.out.below hb)
      have KS_5 := Lib.hid (KS_4.out.below hb)
      have K9_3 := Lib.hid (K9_2.out.below hb)
      clear L_4 KS_4 K9_2 hb
      clear RL
      rcases Nat.lt_or_ge k b.n with hlt0 | hge
      case inl =>
        have hw : b.weighs = false := by
          cases hw : b.weighs
          · rfl
          · exact absurd ⟨hlt0, hw⟩ hgo
        have HW := Lib.hid hw
        have hd0 : decide (k < b.n) = true := by simpa using hlt0
        clear hw hgo hlt0
        obtain ⟨b0, b1, b2, b3, b4, b5, b6, b7⟩ := BB.cells (b := b) L_5.out.B
        obtain ⟨c0, c1, c2, c3, c4, c5, c6⟩ := CB.cells (x := x) L_5.out.X
        rw [HW.out] at b0
        go_wp2_with fail
        clear b0 b1 b2 b3 b4 b5 b6 b7 c0 c1 c2 c3 c4 c5 c6
        go_loopw [13, 14, 15] (fun v13 v14 v15 wr => ∃ k : Nat, k ≤ K ∧ v15 = .int .i64 k ∧ v13 = .int .i64 (lowK b x fz k) ∧ v14 = .int .i64 (highK b x fz k) ∧ (0 < k → b.weighs = true → b.heavy x ≤ 10000000) ∧ Below W6.heap.size W6 wr) (fun _ _ i _ => K - (intOf i).toNat)
        case atStart => exact ⟨0, Nat.zero_le _, rfl, by simp [lowK, leastR], by simp [highK, mostR], fun h9 => absurd h9 (by omega), Below.refl _ _⟩
        case round =>
          obtain ⟨k, hk, rfl, rfl, rfl, hheavy, hb⟩ := hrel
          by_cases hlt : k < K
          · as_aux_lemma =>
            skip
            have hd1 : decide (k < K) = true := by simpa using hlt
            have hk0 : (0 : Int) ≤ (k : Int) := by omega
            have hk1 : (k : Int) < (K : Int) := by omega
            obtain ⟨ib, io, rfl, il, ic⟩ := (HIA_0.out.mono hb) k hlt
            have HH := Lib.hid hheavy
            have RL := Lib.hid (L_5.out.below hb)
            clear hheavy
            go_upto_region 18 with fail
            apply stash2 (fun gb gc wz => Box gb #[.bool b.weighs, .slice oa b.n cap, .int .i64 b.off, .int .i64 b.buoy.lo, .int .i64 b.buoy.hi, .int .i64 b.air.lo, .int .i64 b.air.hi] 26 wz ∧ Box gc #[.bool b.weighs, .slice oa b.n cap, .int .i64 b.off, .int .i64 b.buoy.lo, .int .i64 b.buoy.hi, .int .i64 b.air.lo, .int .i64 b.air.hi] 26 wz ∧ Below wr.heap.size wr wz ∧ wr.heap.size ≤ gb ∧ wr.heap.size ≤ gc ∧ gb ≠ gc)
            intro hrest
            have hCC : ∀ A B : World, Below wr.heap.size wr A → Below A.heap.size A B → Below wr.heap.size wr B := fun A B h1 h2 => h1.trans (h2.mono h1.size)
            have hC0 : Below wr.heap.size wr wr.drew := (Below.refl _ _).drew
            refine wp_region_garb (Below wr.heap.size wr) (by kernel_rfl) ?_
            (refine wpAnyG_take (i := 0) hCC hC0 rfl (by kernel_rfl) (by kernel_rfl) (by kernel_rfl) (fun _ _ _ _ h => h) (by rfl) ?_; apply Exists.intro; refine ⟨fun w1 h1 K hK => ?_, ?_⟩; · (have f := fun W9 : Aft w1 => RL.out.B.below (hCC _ _ h1 W9.below); have f0 : ∀ W : Aft w1, W.val.cell? ⟨w.heap.size, 0, none⟩ = some (.bool b.weighs) := fun W => (f W).cell 0 rfl; have f1 : ∀ W : Aft w1, W.val.cell? ⟨w.heap.size, 1, none⟩ = some (.slice oa b.n cap) := fun W => (f W).cell 1 rfl; have f2 : ∀ W : Aft w1, W.val.cell? ⟨w.heap.size, 2, none⟩ = some (.int .i64 b.off) := fun W => (f W).cell 2 rfl; have f3 : ∀ W : Aft w1, W.val.cell? ⟨w.heap.size, 3, none⟩ = some (.int .i64 b.buoy.lo) := fun W => (f W).cell 3 rfl; have f4 : ∀ W : Aft w1, W.val.cell? ⟨w.heap.size, 4, none⟩ = some (.int .i64 b.buoy.hi) := fun W => (f W).cell 4 rfl; have f5 : ∀ W : Aft w1, W.val.cell? ⟨w.heap.size, 5, none⟩ = some (.int .i64 b.air.lo) := fun W => (f W).cell 5 rfl; have f6 : ∀ W : Aft w1, W.val.cell? ⟨w.heap.size, 6, none⟩ = some (.int .i64 b.air.hi) := fun W => (f W).cell 6 rfl; go_big_quiet_op; first | exact hK | fail))
            (refine wpAnyG_take (i := 1) hCC hC0 rfl (by kernel_rfl) (by kernel_rfl) (by kernel_rfl) (fun _ _ _ _ h => h) (by rfl) ?_; apply Exists.intro; refine ⟨fun w1 h1 K hK => ?_, ?_⟩; · (have f := fun W9 : Aft w1 => RL.out.B.below (hCC _ _ h1 W9.below); have f0 : ∀ W : Aft w1, W.val.cell? ⟨w.heap.size, 0, none⟩ = some (.bool b.weighs) := fun W => (f W).cell 0 rfl; have f1 : ∀ W : Aft w1, W.val.cell? ⟨w.heap.size, 1, none⟩ = some (.slice oa b.n cap) := fun W => (f W).cell 1 rfl; have f2 : ∀ W : Aft w1, W.val.cell? ⟨w.heap.size, 2, none⟩ = some (.int .i64 b.off) := fun W => (f W).cell 2 rfl; have f3 : ∀ W : Aft w1, W.val.cell? ⟨w.heap.size, 3, none⟩ = some (.int .i64 b.buoy.lo) := fun W => (f W).cell 3 rfl; have f4 : ∀ W : Aft w1, W.val.cell? ⟨w.heap.size, 4, none⟩ = some (.int .i64 b.buoy.hi) := fun W => (f W).cell 4 rfl; have f5 : ∀ W : Aft w1, W.val.cell? ⟨w.heap.size, 5, none⟩ = some (.int .i64 b.air.lo) := fun W => (f W).cell 5 rfl; have f6 : ∀ W : Aft w1, W.val.cell? ⟨w.heap.size, 6, none⟩ = some (.int .i64 b.air.hi) := fun W => (f W).cell 6 rfl; go_big_quiet_op; first | exact hK | fail))
            (refine wpAnyG_two (i := 2) (k := 3) (by kernel_rfl) rfl rfl (by rfl) (by rfl) (fun wa hwa K hK => ?_) (fun wa hwa K hK => ?_))
            · go_simp
              refine hK _ _ ((hCC _ _ hC0 hwa).alloc (by have := hC0.size; have := hwa.size; omega) _) ?_
              clear hK K
              have zb := Box.new (g := wa.heap.size) #[.bool false, .slice none 0 0, .int .i64 0, .int .i64 0, .int .i64 0, .int .i64 0, .int .i64 0] 26 wa rfl
              have hC9 := (hCC _ _ hC0 hwa).alloc (by have := hC0.size; have := hwa.size; omega) (.cells #[.bool false, .slice none 0 0, .int .i64 0, .int .i64 0, .int .i64 0, .int .i64 0, .int .i64 0] 26)
              have hgb : wr.heap.size ≤ wa.heap.size := Nat.le_trans hC0.size hwa.size
              clear hC0 hwa
              have hC0 := hC9
              clear hC9
              obtain ⟨gb, hG⟩ : ∃ G, G = wa.heap.size := ⟨_, rfl⟩
              obtain ⟨waA, hWA⟩ : ∃ X, X = wa.alloc (.cells #[.bool false, .slice none 0 0, .int .i64 0, .int .i64 0, .int .i64 0, .int .i64 0, .int .i64 0] 26) := ⟨_, rfl⟩
              rw [← hWA] at zb hC0  ⊢
              rw [← hG] at zb hgb  ⊢
              clear hG hWA
              (refine wpAnyG_one (i := 3) (by kernel_rfl) rfl (by rfl) (fun wb hwb K hK => ?_))
              go_simp
              refine hK _ _ ((hCC _ _ hC0 hwb).alloc (by have := hC0.size; have := hwb.size; omega) _) ?_
              clear hK K
              have zc := Box.new (g := wb.heap.size) #[.bool false, .slice none 0 0, .int .i64 0, .int .i64 0, .int .i64 0, .int .i64 0, .int .i64 0] 26 wb rfl
              have hC9 := (hCC _ _ hC0 hwb).alloc (by have := hC0.size; have := hwb.size; omega) (.cells #[.bool false, .slice none 0 0, .int .i64 0, .int .i64 0, .int .i64 0, .int .i64 0, .int .i64 0] 26)
              have hgc : wr.heap.size ≤ wb.heap.size := Nat.le_trans hC0.size hwb.size
              have yb := (zb.below hwb).old (.cells #[.bool false, .slice none 0 0, .int .i64 0, .int .i64 0, .int .i64 0, .int .i64 0, .int .i64 0] 26)
              have hne : gb < wb.heap.size := (zb.below hwb).lt
              clear zb
              have zb := yb
              clear yb
              clear hC0 hwb
              have hC0 := hC9
              clear hC9
              obtain ⟨gc, hG⟩ : ∃ G, G = wb.heap.size := ⟨_, rfl⟩
              obtain ⟨wbA, hWA⟩ : ∃ X, X = wb.alloc (.cells #[.bool false, .slice none 0 0, .int .i64 0, .int .i64 0, .int .i64 0, .int .i64 0, .int .i64 0] 26) := ⟨_, rfl⟩
              rw [← hWA] at zc hC0 zb ⊢
              rw [← hG] at zc hgc hne ⊢
              clear hG hWA
              (refine wpAnyG_one (i := 4) (by kernel_rfl) rfl (by rfl) (fun wc hwc K hK => ?_))
              refine wp_store_box (zb.below hwc) rfl rfl rfl rfl (by kernel_rfl) (by simp [Value.oneCell']) (fun wcS zs ho => ?_); dsimp only [Act.put]
              refine hK _ _ ((hCC _ _ hC0 hwc).trans (ho.below hgb)) ?_
              clear hK K
              have hC9 := (hCC _ _ hC0 hwc).trans (ho.below hgb)
              have yc := ho.box (zc.below hwc) (by omega)
              clear hC0 zb zc ho hwc
              have hC0 := hC9
              have zb := zs
              have zc := yc
              clear hC9 zs yc
              (refine wpAnyG_one (i := 5) (by kernel_rfl) rfl (by rfl) (fun wd hwd K hK => ?_))
              refine wp_store_box (zc.below hwd) rfl rfl rfl rfl (by kernel_rfl) (by simp [Value.oneCell']) (fun wdS zs ho => ?_); dsimp only [Act.put]
              refine hK _ _ ((hCC _ _ hC0 hwd).trans (ho.below hgc)) ?_
              clear hK K
              have hC9 := (hCC _ _ hC0 hwd).trans (ho.below hgc)
              have yb := ho.box (zb.below hwd) (by omega)
              clear hC0 zc zb ho hwd
              have hC0 := hC9
              have zc := zs
              have zb := yb
              clear hC9 zs yb
              refine wpAnyG_done (by kernel_rfl) (fun wz hwz => ?_) _
              have yb := zb.below hwz
              have yc := zc.below hwz
              have yw := hCC _ _ hC0 hwz
              exact hrest gb gc wz ⟨yb, yc, yw, hgb, hgc, by omega⟩
            · go_simp
              refine hK _ _ ((hCC _ _ hC0 hwa).alloc (by have := hC0.size; have := hwa.size; omega) _) ?_
              clear hK K
              have zc := Box.new (g := wa.heap.size) #[.bool false, .slice none 0 0, .int .i64 0, .int .i64 0, .int .i64 0, .int .i64 0, .int .i64 0] 26 wa rfl
              have hC9 := (hCC _ _ hC0 hwa).alloc (by have := hC0.size; have := hwa.size; omega) (.cells #[.bool false, .slice none 0 0, .int .i64 0, .int .i64 0, .int .i64 0, .int .i64 0, .int .i64 0] 26)
              have hgc : wr.heap.size ≤ wa.heap.size := Nat.le_trans hC0.size hwa.size
              clear hC0 hwa
              have hC0 := hC9
              clear hC9
              obtain ⟨gc, hG⟩ : ∃ G, G = wa.heap.size := ⟨_, rfl⟩
              obtain ⟨waA, hWA⟩ : ∃ X, X = wa.alloc (.cells #[.bool false, .slice none 0 0, .int .i64 0, .int .i64 0, .int .i64 0, .int .i64 0, .int .i64 0] 26) := ⟨_, rfl⟩
              rw [← hWA] at zc hC0  ⊢
              rw [← hG] at zc hgc  ⊢
              clear hG hWA
              (refine wpAnyG_one (i := 2) (by kernel_rfl) rfl (by rfl) (fun wb hwb K hK => ?_))
              go_simp
              refine hK _ _ ((hCC _ _ hC0 hwb).alloc (by have := hC0.size; have := hwb.size; omega) _) ?_
              clear hK K
              have zb := Box.new (g := wb.heap.size) #[.bool false, .slice none 0 0, .int .i64 0, .int .i64 0, .int .i64 0, .int .i64 0, .int .i64 0] 26 wb rfl
              have hC9 := (hCC _ _ hC0 hwb).alloc (by have := hC0.size; have := hwb.size; omega) (.cells #[.bool false, .slice none 0 0, .int .i64 0, .int .i64 0, .int .i64 0, .int .i64 0, .int .i64 0] 26)
              have hgb : wr.heap.size ≤ wb.heap.size := Nat.le_trans hC0.size hwb.size
              have yc := (zc.below hwb).old (.cells #[.bool false, .slice none 0 0, .int .i64 0, .int .i64 0, .int .i64 0, .int .i64 0, .int .i64 0] 26)
              have hne : gc < wb.heap.size := (zc.below hwb).lt
              clear zc
              have zc := yc
              clear yc
              clear hC0 hwb
              have hC0 := hC9
              clear hC9
              obtain ⟨gb, hG⟩ : ∃ G, G = wb.heap.size := ⟨_, rfl⟩
              obtain ⟨wbA, hWA⟩ : ∃ X, X = wb.alloc (.cells #[.bool false, .slice none 0 0, .int .i64 0, .int .i64 0, .int .i64 0, .int .i64 0, .int .i64 0] 26) := ⟨_, rfl⟩
              rw [← hWA] at zb hC0 zc ⊢
              rw [← hG] at zb hgb hne ⊢
              clear hG hWA
              (refine wpAnyG_one (i := 4) (by kernel_rfl) rfl (by rfl) (fun wc hwc K hK => ?_))
              refine wp_store_box (zb.below hwc) rfl rfl rfl rfl (by kernel_rfl) (by simp [Value.oneCell']) (fun wcS zs ho => ?_); dsimp only [Act.put]
              refine hK _ _ ((hCC _ _ hC0 hwc).trans (ho.below hgb)) ?_
              clear hK K
              have hC9 := (hCC _ _ hC0 hwc).trans (ho.below hgb)
              have yc := ho.box (zc.below hwc) (by omega)
              clear hC0 zb zc ho hwc
              have hC0 := hC9
              have zb := zs
              have zc := yc
              clear hC9 zs yc
              (refine wpAnyG_one (i := 5) (by kernel_rfl) rfl (by rfl) (fun wd hwd K hK => ?_))
              refine wp_store_box (zc.below hwd) rfl rfl rfl rfl (by kernel_rfl) (by simp [Value.oneCell']) (fun wdS zs ho => ?_); dsimp only [Act.put]
              refine hK _ _ ((hCC _ _ hC0 hwd).trans (ho.below hgc)) ?_
              clear hK K
              have hC9 := (hCC _ _ hC0 hwd).trans (ho.below hgc)
              have yb := ho.box (zb.below hwd) (by omega)
              clear hC0 zc zb ho hwd
              have hC0 := hC9
              have zc := zs
              have zb := yb
              clear hC9 zs yb
              refine wpAnyG_done (by kernel_rfl) (fun wz hwz => ?_) _
              have yb := zb.below hwz
              have yc := zc.below hwz
              have yw := hCC _ _ hC0 hwz
              exact hrest gb gc wz ⟨yb, yc, yw, hgb, hgc, by omega⟩
            rintro gb gc w7 ⟨zb, zc, zw, hgb, hgc, zn⟩
            go_wp2_with fail
            have hCC : ∀ A B : World, Below wr.heap.size wr A → Below A.heap.size A B → Below wr.heap.size wr B := fun A B h1 h2 => h1.trans (h2.mono h1.size)
            have hC0 : Below wr.heap.size wr w7.drew := zw.drew
            refine wp_region_garb (Below wr.heap.size wr) (by kernel_rfl) ?_
            clear zw
            have yb := zb.drew
            have yc := zc.drew
            clear zb zc
            have zb := yb
            have zc := yc
            clear yb yc
            (refine wpAnyG_take (i := 0) hCC hC0 rfl (by kernel_rfl) (by kernel_rfl) (by kernel_rfl) (fun _ _ _ _ h => h) (by rfl) ?_; apply Exists.intro; refine ⟨fun w1 h1 K hK => ?_, ?_⟩; · ( go_big_quiet_op; first | exact hK | fail))
            (refine wpAnyG_take (i := 1) hCC hC0 rfl (by kernel_rfl) (by kernel_rfl) (by kernel_rfl) (fun _ _ _ _ h => h) (by rfl) ?_; apply Exists.intro; refine ⟨fun w1 h1 K hK => ?_, ?_⟩; · ( go_big_quiet_op; first | exact hK | fail))
            (refine wpAnyG_take (i := 2) hCC hC0 rfl (by kernel_rfl) (by kernel_rfl) (by kernel_rfl) (fun _ _ _ _ h => h) (by rfl) ?_; apply Exists.intro; refine ⟨fun w1 h1 K hK => ?_, ?_⟩; · (have f := fun W9 : Aft w1 => RL.out.B.below (hCC _ _ h1 W9.below); have f5 : ∀ W : Aft w1, W.val.cell? ⟨w.heap.size, 5, none⟩ = some (.int .i64 b.air.lo) := fun W => (f W).cell 5 rfl; have f6 : ∀ W : Aft w1, W.val.cell? ⟨w.heap.size, 6, none⟩ = some (.int .i64 b.air.hi) := fun W => (f W).cell 6 rfl; go_big_quiet_op; first | exact hK | fail))
            (refine wpAnyG_take (i := 3) hCC hC0 rfl (by kernel_rfl) (by kernel_rfl) (by kernel_rfl) (fun _ _ _ _ h => h) (by rfl) ?_; apply Exists.intro; refine ⟨fun w1 h1 K hK => ?_, ?_⟩; · ( go_big_quiet_op; first | exact hK | fail))
            (refine wpAnyG_take (i := 4) hCC hC0 rfl (by kernel_rfl) (by kernel_rfl) (by kernel_rfl) (fun _ _ _ _ h => h) (by rfl) ?_; apply Exists.intro; refine ⟨fun w1 h1 K hK => ?_, ?_⟩; · ( go_big_quiet_op; first | exact hK | fail))
            (refine wpAnyG_take (i := 5) hCC hC0 rfl (by kernel_rfl) (by kernel_rfl) (by kernel_rfl) (fun _ _ _ _ h => h) (by rfl) ?_; apply Exists.intro; refine ⟨fun w1 h1 K hK => ?_, ?_⟩; · (have f := fun W9 : Aft w1 => RL.out.B.below (hCC _ _ h1 W9.below); have f5 : ∀ W : Aft w1, W.val.cell? ⟨w.heap.size, 5, none⟩ = some (.int .i64 b.air.lo) := fun W => (f W).cell 5 rfl; have f6 : ∀ W : Aft w1, W.val.cell? ⟨w.heap.size, 6, none⟩ = some (.int .i64 b.air.hi) := fun W => (f W).cell 6 rfl; go_big_quiet_op; first | exact hK | fail))
            (refine wpAnyG_take (i := 6) hCC hC0 rfl (by kernel_rfl) (by kernel_rfl) (by kernel_rfl) (fun _ _ _ _ h => h) (by rfl) ?_; apply Exists.intro; refine ⟨fun w1 h1 K hK => ?_, ?_⟩; · ( go_big_quiet_op; first | exact hK | exact ⟨_, fun W => aft_call (span_any _ _ _), hK⟩))
            (refine wpAnyG_take (i := 7) hCC hC0 rfl (by kernel_rfl) (by kernel_rfl) (by kernel_rfl) (fun _ _ _ _ h => h) (by rfl) ?_; apply Exists.intro; refine ⟨fun w1 h1 K hK => ?_, ?_⟩; · ( go_big_quiet_op; first | exact hK | fail))
            (refine wpAnyG_take (i := 8) hCC hC0 rfl (by kernel_rfl) (by kernel_rfl) (by kernel_rfl) (fun _ _ _ _ h => h) (by rfl) ?_; apply Exists.intro; refine ⟨fun w1 h1 K hK => ?_, ?_⟩; · ( go_big_quiet_op; first | exact hK | fail))
            (refine wpAnyG_take (i := 9) hCC hC0 rfl (by kernel_rfl) (by kernel_rfl) (by kernel_rfl) (fun _ _ _ _ h => h) (by rfl) ?_; apply Exists.intro; refine ⟨fun w1 h1 K hK => ?_, ?_⟩; · (have f := fun W9 : Aft w1 => RL.out.B.below (hCC _ _ h1 W9.below); have f5 : ∀ W : Aft w1, W.val.cell? ⟨w.heap.size, 5, none⟩ = some (.int .i64 b.air.lo) := fun W => (f W).cell 5 rfl; have f6 : ∀ W : Aft w1, W.val.cell? ⟨w.heap.size, 6, none⟩ = some (.int .i64 b.air.hi) := fun W => (f W).cell 6 rfl; go_big_quiet_op; first | exact hK | fail))
            (refine wpAnyG_take (i := 10) hCC hC0 rfl (by kernel_rfl) (by kernel_rfl) (by kernel_rfl) (fun _ _ _ _ h => h) (by rfl) ?_; apply Exists.intro; refine ⟨fun w1 h1 K hK => ?_, ?_⟩; · ( go_big_quiet_op; first | exact hK | fail))
            (refine wpAnyG_take (i := 11) hCC hC0 rfl (by kernel_rfl) (by kernel_rfl) (by kernel_rfl) (fun _ _ _ _ h => h) (by rfl) ?_; apply Exists.intro; refine ⟨fun w1 h1 K hK => ?_, ?_⟩; · ( go_big_quiet_op; first | exact hK | fail))
            (refine wpAnyG_take (i := 12) hCC hC0 rfl (by kernel_rfl) (by kernel_rfl) (by kernel_rfl) (fun _ _ _ _ h => h) (by rfl) ?_; apply Exists.intro; refine ⟨fun w1 h1 K hK => ?_, ?_⟩; · (have f := fun W9 : Aft w1 => RL.out.B.below (hCC _ _ h1 W9.below); have f5 : ∀ W : Aft w1, W.val.cell? ⟨w.heap.size, 5, none⟩ = some (.int .i64 b.air.lo) := fun W => (f W).cell 5 rfl; have f6 : ∀ W : Aft w1, W.val.cell? ⟨w.heap.size, 6, none⟩ = some (.int .i64 b.air.hi) := fun W => (f W).cell 6 rfl; go_big_quiet_op; first | exact hK | fail))
            (refine wpAnyG_take (i := 13) hCC hC0 rfl (by kernel_rfl) (by kernel_rfl) (by kernel_rfl) (fun _ _ _ _ h => h) (by rfl) ?_; apply Exists.intro; refine ⟨fun w1 h1 K hK => ?_, ?_⟩; · ( go_big_quiet_op; first | exact hK | exact ⟨_, fun W => aft_call (span_any _ _ _), hK⟩))
            (refine wpAnyG_take (i := 14) hCC hC0 rfl (by kernel_rfl) (by kernel_rfl) (by kernel_rfl) (fun _ _ _ _ h => h) (by rfl) ?_; apply Exists.intro; refine ⟨fun w1 h1 K hK => ?_, ?_⟩; · ( go_big_quiet_op; first | exact hK | fail))
            (refine wpAnyG_one (i := 15) (by kernel_rfl) rfl (by rfl) (fun wa hwa K hK => ?_))
            refine wp_store_int (zb.below hwa) rfl rfl rfl (by simp) (by kernel_rfl) (fun w1s zs ho => ?_); dsimp only [Act.put]
            refine hK _ _ ((hCC _ _ hC0 hwa).trans (ho.below hgb)) ?_
            clear hK K
            have hC9 := (hCC _ _ hC0 hwa).trans (ho.below hgb)
            have zt : Box gb #[.bool b.weighs, .slice oa b.n cap, .int .i64 0, .int .i64 b.buoy.lo, .int .i64 b.buoy.hi, .int .i64 b.air.lo, .int .i64 b.air.hi] 26 w1s := zs
            have yc := ho.box (zc.below hwa) (zn.symm)
            clear hC0 zs zb ho hwa zc
            have hC0 := hC9
            have zb := zt
            have zc := yc
            clear hC9 zt yc
            (refine wpAnyG_take (i := 16) hCC hC0 rfl (by kernel_rfl) (by kernel_rfl) (by kernel_rfl) (fun _ _ _ _ h => h) (by rfl) ?_; apply Exists.intro; refine ⟨fun w1 h1 K hK => ?_, ?_⟩; · ( go_big_quiet_op; first | exact hK | fail))
            (refine wpAnyG_one (i := 17) (by kernel_rfl) rfl (by rfl) (fun wa hwa K hK => ?_))
            refine wp_store_int (zc.below hwa) rfl rfl rfl (by simp) (by kernel_rfl) (fun w2s zs ho => ?_); dsimp only [Act.put]
            refine hK _ _ ((hCC _ _ hC0 hwa).trans (ho.below hgc)) ?_
            clear hK K
            have hC9 := (hCC _ _ hC0 hwa).trans (ho.below hgc)
            have zt : Box gc #[.bool b.weighs, .slice oa b.n cap, .int .i64 0, .int .i64 b.buoy.lo, .int .i64 b.buoy.hi, .int .i64 b.air.lo, .int .i64 b.air.hi] 26 w2s := zs
            have yb := ho.box (zb.below hwa) (zn)
            clear hC0 zs zc ho hwa zb
            have hC0 := hC9
            have zc := zt
            have zb := yb
            clear hC9 zt yb
            (refine wpAnyG_take (i := 18) hCC hC0 rfl (by kernel_rfl) (by kernel_rfl) (by kernel_rfl) (fun _ _ _ _ h => h) (by rfl) ?_; apply Exists.intro; refine ⟨fun w1 h1 K hK => ?_, ?_⟩; · ( go_big_quiet_op; first | exact hK | fail))
            (refine wpAnyG_one (i := 19) (by kernel_rfl) rfl (by rfl) (fun wa hwa K hK => ?_))
            refine wp_store_at (zb.below hwa) rfl rfl rfl (by simp) (by kernel_rfl) (by simp [Value.oneCell']) (fun w3s zs ho => ?_); dsimp only [Act.put]
            refine hK _ _ ((hCC _ _ hC0 hwa).trans (ho.below hgb)) ?_
            clear hK K
            have hC9 := (hCC _ _ hC0 hwa).trans (ho.below hgb)
            have zt : Box gb #[.bool b.weighs, .slice oa b.n cap, .int .i64 0, .int .i64 b.buoy.lo, .int .i64 b.buoy.hi, .int .i64 b.air.lo, .int .i64 b.air.lo] 26 w3s := zs
            have yc := ho.box (zc.below hwa) (zn.symm)
            clear hC0 zs zb ho hwa zc
            have hC0 := hC9
            have zb := zt
            have zc := yc
            clear hC9 zt yc
            (refine wpAnyG_take (i := 20) hCC hC0 rfl (by kernel_rfl) (by kernel_rfl) (by kernel_rfl) (fun _ _ _ _ h => h) (by rfl) ?_; apply Exists.intro; refine ⟨fun w1 h1 K hK => ?_, ?_⟩; · ( go_big_quiet_op; first | exact hK | fail))
            (refine wpAnyG_one (i := 21) (by kernel_rfl) rfl (by rfl) (fun wa hwa K hK => ?_))
            refine wp_store_at (zc.below hwa) rfl rfl rfl (by simp) (by kernel_rfl) (by simp [Value.oneCell']) (fun w4s zs ho => ?_); dsimp only [Act.put]
            refine hK _ _ ((hCC _ _ hC0 hwa).trans (ho.below hgc)) ?_
            clear hK K
            have hC9 := (hCC _ _ hC0 hwa).trans (ho.below hgc)
            have zt : Box gc #[.bool b.weighs, .slice oa b.n cap, .int .i64 0, .int .i64 b.buoy.lo, .int .i64 b.buoy.hi, .int .i64 b.air.hi, .int .i64 b.air.hi] 26 w4s := zs
            have yb := ho.box (zb.below hwa) (zn)
            clear hC0 zs zc ho hwa zb
            have hC0 := hC9
            have zc := zt
            have zb := yb
            clear hC9 zt yb
            refine wpAnyG_done (by kernel_rfl) (fun w89 hw89 => ?_) _
            have yb := zb.below hw89
            have yc := zc.below hw89
            have zw := hCC _ _ hC0 hw89
            clear hC0 hCC hw89 zb zc
            have zb := yb
            have zc := yc
            clear yb yc
            obtain ⟨w8, hW⟩ : ∃ X, X = w89 := ⟨_, rfl⟩
            rw [← hW] at zw zb zc ⊢
            clear hW
            go_wp2_with fail
            have hCC : ∀ A B : World, Below wr.heap.size wr A → Below A.heap.size A B → Below wr.heap.size wr B := fun A B h1 h2 => h1.trans (h2.mono h1.size)
            have hC0 : Below wr.heap.size wr w8.drew := zw.drew
            refine wp_region_garb (Below wr.heap.size wr) (by kernel_rfl) ?_
            clear zw
            have yb := zb.drew
            have yc := zc.drew
            clear zb zc
            have zb := yb
            have zc := yc
            clear yb yc
            (refine wpAnyG_take (i := 0) hCC hC0 rfl (by kernel_rfl) (by kernel_rfl) (by kernel_rfl) (fun _ _ _ _ h => h) (by rfl) ?_; apply Exists.intro; refine ⟨fun w1 h1 K hK => ?_, ?_⟩; · ( go_big_quiet_op; first | exact hK | fail))
            (refine wpAnyG_take (i := 1) hCC hC0 rfl (by kernel_rfl) (by kernel_rfl) (by kernel_rfl) (fun _ _ _ _ h => h) (by rfl) ?_; apply Exists.intro; refine ⟨fun w1 h1 K hK => ?_, ?_⟩; · ( go_big_quiet_op; first | exact hK | fail))
            (refine wpAnyG_take (i := 2) hCC hC0 rfl (by kernel_rfl) (by kernel_rfl) (by kernel_rfl) (fun _ _ _ _ h => h) (by rfl) ?_; apply Exists.intro; refine ⟨fun w1 h1 K hK => ?_, ?_⟩; · (have f := fun W9 : Aft w1 => RL.out.B.below (hCC _ _ h1 W9.below); have f3 : ∀ W : Aft w1, W.val.cell? ⟨w.heap.size, 3, none⟩ = some (.int .i64 b.buoy.lo) := fun W => (f W).cell 3 rfl; have f4 : ∀ W : Aft w1, W.val.cell? ⟨w.heap.size, 4, none⟩ = some (.int .i64 b.buoy.hi) := fun W => (f W).cell 4 rfl; go_big_quiet_op; first | exact hK | fail))
            (refine wpAnyG_take (i := 3) hCC hC0 rfl (by kernel_rfl) (by kernel_rfl) (by kernel_rfl) (fun _ _ _ _ h => h) (by rfl) ?_; apply Exists.intro; refine ⟨fun w1 h1 K hK => ?_, ?_⟩; · ( go_big_quiet_op; first | exact hK | fail))
            (refine wpAnyG_take (i := 4) hCC hC0 rfl (by kernel_rfl) (by kernel_rfl) (by kernel_rfl) (fun _ _ _ _ h => h) (by rfl) ?_; apply Exists.intro; refine ⟨fun w1 h1 K hK => ?_, ?_⟩; · ( go_big_quiet_op; first | exact hK | fail))
            (refine wpAnyG_take (i := 5) hCC hC0 rfl (by kernel_rfl) (by kernel_rfl) (by kernel_rfl) (fun _ _ _ _ h => h) (by rfl) ?_; apply Exists.intro; refine ⟨fun w1 h1 K hK => ?_, ?_⟩; · (have f := fun W9 : Aft w1 => RL.out.B.below (hCC _ _ h1 W9.below); have f3 : ∀ W : Aft w1, W.val.cell? ⟨w.heap.size, 3, none⟩ = some (.int .i64 b.buoy.lo) := fun W => (f W).cell 3 rfl; have f4 : ∀ W : Aft w1, W.val.cell? ⟨w.heap.size, 4, none⟩ = some (.int .i64 b.buoy.hi) := fun W => (f W).cell 4 rfl; go_big_quiet_op; first | exact hK | fail))
            (refine wpAnyG_take (i := 6) hCC hC0 rfl (by kernel_rfl) (by kernel_rfl) (by kernel_rfl) (fun _ _ _ _ h => h) (by rfl) ?_; apply Exists.intro; refine ⟨fun w1 h1 K hK => ?_, ?_⟩; · ( go_big_quiet_op; first | exact hK | exact ⟨_, fun W => aft_call (span_any _ _ _), hK⟩))
            (refine wpAnyG_take (i := 7) hCC hC0 rfl (by kernel_rfl) (by kernel_rfl) (by kernel_rfl) (fun _ _ _ _ h => h) (by rfl) ?_; apply Exists.intro; refine ⟨fun w1 h1 K hK => ?_, ?_⟩; · ( go_big_quiet_op; first | exact hK | fail))
            (refine wpAnyG_take (i := 8) hCC hC0 rfl (by kernel_rfl) (by kernel_rfl) (by kernel_rfl) (fun _ _ _ _ h => h) (by rfl) ?_; apply Exists.intro; refine ⟨fun w1 h1 K hK => ?_, ?_⟩; · ( go_big_quiet_op; first | exact hK | fail))
            (refine wpAnyG_take (i := 9) hCC hC0 rfl (by kernel_rfl) (by kernel_rfl) (by kernel_rfl) (fun _ _ _ _ h => h) (by rfl) ?_; apply Exists.intro; refine ⟨fun w1 h1 K hK => ?_, ?_⟩; · (have f := fun W9 : Aft w1 => RL.out.B.below (hCC _ _ h1 W9.below); have f3 : ∀ W : Aft w1, W.val.cell? ⟨w.heap.size, 3, none⟩ = some (.int .i64 b.buoy.lo) := fun W => (f W).cell 3 rfl; have f4 : ∀ W : Aft w1, W.val.cell? ⟨w.heap.size, 4, none⟩ = some (.int .i64 b.buoy.hi) := fun W => (f W).cell 4 rfl; go_big_quiet_op; first | exact hK | fail))
            (refine wpAnyG_take (i := 10) hCC hC0 rfl (by kernel_rfl) (by kernel_rfl) (by kernel_rfl) (fun _ _ _ _ h => h) (by rfl) ?_; apply Exists.intro; refine ⟨fun w1 h1 K hK => ?_, ?_⟩; · ( go_big_quiet_op; first | exact hK | fail))
            (refine wpAnyG_take (i := 11) hCC hC0 rfl (by kernel_rfl) (by kernel_rfl) (by kernel_rfl) (fun _ _ _ _ h => h) (by rfl) ?_; apply Exists.intro; refine ⟨fun w1 h1 K hK => ?_, ?_⟩; · ( go_big_quiet_op; first | exact hK | fail))
            (refine wpAnyG_take (i := 12) hCC hC0 rfl (by kernel_rfl) (by kernel_rfl) (by kernel_rfl) (fun _ _ _ _ h => h) (by rfl) ?_; apply Exists.intro; refine ⟨fun w1 h1 K hK => ?_, ?_⟩; · (have f := fun W9 : Aft w1 => RL.out.B.below (hCC _ _ h1 W9.below); have f3 : ∀ W : Aft w1, W.val.cell? ⟨w.heap.size, 3, none⟩ = some (.int .i64 b.buoy.lo) := fun W => (f W).cell 3 rfl; have f4 : ∀ W : Aft w1, W.val.cell? ⟨w.heap.size, 4, none⟩ = some (.int .i64 b.buoy.hi) := fun W => (f W).cell 4 rfl; go_big_quiet_op; first | exact hK | fail))
            (refine wpAnyG_take (i := 13) hCC hC0 rfl (by kernel_rfl) (by kernel_rfl) (by kernel_rfl) (fun _ _ _ _ h => h) (by rfl) ?_; apply Exists.intro; refine ⟨fun w1 h1 K hK => ?_, ?_⟩; · ( go_big_quiet_op; first | exact hK | exact ⟨_, fun W => aft_call (span_any _ _ _), hK⟩))
            (refine wpAnyG_take (i := 14) hCC hC0 rfl (by kernel_rfl) (by kernel_rfl) (by kernel_rfl) (fun _ _ _ _ h => h) (by rfl) ?_; apply Exists.intro; refine ⟨fun w1 h1 K hK => ?_, ?_⟩; · ( go_big_quiet_op; first | exact hK | fail))
            (refine wpAnyG_one (i := 15) (by kernel_rfl) rfl (by rfl) (fun wa hwa K hK => ?_))
            refine wp_store_at (zb.below hwa) rfl rfl rfl (by simp) (by kernel_rfl) (by simp [Value.oneCell']) (fun w5s zs ho => ?_); dsimp only [Act.put]
            refine hK _ _ ((hCC _ _ hC0 hwa).trans (ho.below hgb)) ?_
            clear hK K
            have hC9 := (hCC _ _ hC0 hwa).trans (ho.below hgb)
            have zt : Box gb #[.bool b.weighs, .slice oa b.n cap, .int .i64 0, .int .i64 b.buoy.lo, .int .i64 b.buoy.lo, .int .i64 b.air.lo, .int .i64 b.air.lo] 26 w5s := zs
            have yc := ho.box (zc.below hwa) (zn.symm)
            clear hC0 zs zb ho hwa zc
            have hC0 := hC9
            have zb := zt
            have zc := yc
            clear hC9 zt yc
            (refine wpAnyG_take (i := 16) hCC hC0 rfl (by kernel_rfl) (by kernel_rfl) (by kernel_rfl) (fun _ _ _ _ h => h) (by rfl) ?_; apply Exists.intro; refine ⟨fun w1 h1 K hK => ?_, ?_⟩; · ( go_big_quiet_op; first | exact hK | fail))
            (refine wpAnyG_one (i := 17) (by kernel_rfl) rfl (by rfl) (fun wa hwa K hK => ?_))
            refine wp_store_at (zc.below hwa) rfl rfl rfl (by simp) (by kernel_rfl) (by simp [Value.oneCell']) (fun w6s zs ho => ?_); dsimp only [Act.put]
            refine hK _ _ ((hCC _ _ hC0 hwa).trans (ho.below hgc)) ?_
            clear hK K
            have hC9 := (hCC _ _ hC0 hwa).trans (ho.below hgc)
            have zt : Box gc #[.bool b.weighs, .slice oa b.n cap, .int .i64 0, .int .i64 b.buoy.hi, .int .i64 b.buoy.hi, .int .i64 b.air.hi, .int .i64 b.air.hi] 26 w6s := zs
            have yb := ho.box (zb.below hwa) (zn)
            clear hC0 zs zc ho hwa zb
            have hC0 := hC9
            have zc := zt
            have zb := yb
            clear hC9 zt yb
            refine wpAnyG_done (by kernel_rfl) (fun wp9 hwp9 => ?_) _
            have yb := zb.below hwp9
            have yc := zc.below hwp9
            have zw := hCC _ _ hC0 hwp9
            clear hC0 hCC hwp9 zb zc
            have zb := yb
            have zc := yc
            clear yb yc
            obtain ⟨wp, hW⟩ : ∃ X, X = wp9 := ⟨_, rfl⟩
            rw [← hW] at zw zb zc ⊢
            clear hW
            go_wp2_with fail
            have hCC : ∀ A B : World, Below wr.heap.size wr A → Below A.heap.size A B → Below wr.heap.size wr B := fun A B h1 h2 => h1.trans (h2.mono h1.size)
            have hC0 : Below wr.heap.size wr wp.drew := zw.drew
            refine wp_region_garb (Below wr.heap.size wr) (by kernel_rfl) ?_
            clear zw
            have yb := zb.drew
            have yc := zc.drew
            clear zb zc
            have zb := yb
            have zc := yc
            clear yb yc
            (refine wpAnyG_take (i := 0) hCC hC0 rfl (by kernel_rfl) (by kernel_rfl) (by kernel_rfl) (fun _ _ _ _ h => h) (by rfl) ?_; apply Exists.intro; refine ⟨fun w1 h1 K hK => ?_, ?_⟩; · ( go_big_quiet_op; first | exact hK | fail))
            (refine wpAnyG_take (i := 1) hCC hC0 rfl (by kernel_rfl) (by kernel_rfl) (by kernel_rfl) (fun _ _ _ _ h => h) (by rfl) ?_; apply Exists.intro; refine ⟨fun w1 h1 K hK => ?_, ?_⟩; · ( go_big_quiet_op; first | exact hK | fail))
            (refine wpAnyG_take (i := 2) hCC hC0 rfl (by kernel_rfl) (by kernel_rfl) (by kernel_rfl) (fun _ _ _ _ h => h) (by rfl) ?_; apply Exists.intro; refine ⟨fun w1 h1 K hK => ?_, ?_⟩; · (have f0 : ∀ W : Aft w1, W.val.cell? ⟨ib, io + k, none⟩ = some (.int .i64 (fz k)) := fun W => ((hCC _ _ h1 W.below).cell (p := ⟨ib, io + k, none⟩) il).trans ic; go_big_quiet_op; first | exact hK | fail))
            (refine wpAnyG_take (i := 3) hCC hC0 rfl (by kernel_rfl) (by kernel_rfl) (by kernel_rfl) (fun _ _ _ _ h => h) (by rfl) ?_; apply Exists.intro; refine ⟨fun w1 h1 K hK => ?_, ?_⟩; · (have f0 : ∀ W : Aft w1, W.val.cell? ⟨ib, io + k, none⟩ = some (.int .i64 (fz k)) := fun W => ((hCC _ _ h1 W.below).cell (p := ⟨ib, io + k, none⟩) il).trans ic; go_big_quiet_op; first | exact hK | fail))
            (refine wpAnyG_take (i := 4) hCC hC0 rfl (by kernel_rfl) (by kernel_rfl) (by kernel_rfl) (fun _ _ _ _ h => h) (by rfl) ?_; apply Exists.intro; refine ⟨fun w1 h1 K hK => ?_, ?_⟩; · ( go_big_quiet_op; first | exact hK | fail))
            (refine wpAnyG_take (i := 5) hCC hC0 rfl (by kernel_rfl) (by kernel_rfl) (by kernel_rfl) (fun _ _ _ _ h => h) (by rfl) ?_; apply Exists.intro; refine ⟨fun w1 h1 K hK => ?_, ?_⟩; · ( go_big_quiet_op; first | exact hK | fail))
            (refine wpAnyG_take (i := 6) hCC hC0 rfl (by kernel_rfl) (by kernel_rfl) (by kernel_rfl) (fun _ _ _ _ h => h) (by rfl) ?_; apply Exists.intro; refine ⟨fun w1 h1 K hK => ?_, ?_⟩; · (have f0 : ∀ W : Aft w1, W.val.cell? ⟨ib, io + k, none⟩ = some (.int .i64 (fz k)) := fun W => ((hCC _ _ h1 W.below).cell (p := ⟨ib, io + k, none⟩) il).trans ic; go_big_quiet_op; first | exact hK | fail))
            (refine wpAnyG_take (i := 7) hCC hC0 rfl (by kernel_rfl) (by kernel_rfl) (by kernel_rfl) (fun _ _ _ _ h => h) (by rfl) ?_; apply Exists.intro; refine ⟨fun w1 h1 K hK => ?_, ?_⟩; · (have f0 : ∀ W : Aft w1, W.val.cell? ⟨ib, io + k, none⟩ = some (.int .i64 (fz k)) := fun W => ((hCC _ _ h1 W.below).cell (p := ⟨ib, io + k, none⟩) il).trans ic; go_big_quiet_op; first | exact hK | fail))
            (refine wpAnyG_take (i := 8) hCC hC0 rfl (by kernel_rfl) (by kernel_rfl) (by kernel_rfl) (fun _ _ _ _ h => h) (by rfl) ?_; apply Exists.intro; refine ⟨fun w1 h1 K hK => ?_, ?_⟩; · ( go_big_quiet_op; first | exact hK | exact ⟨_, fun W => aft_call (span_any _ _ _), hK⟩))
            (refine wpAnyG_one (i := 9) (by kernel_rfl) rfl (by rfl) (fun wa hwa K hK => ?_))
            go_simp
            refine hK _ _ ((hCC _ _ hC0 hwa).alloc (by have := hC0.size; have := hwa.size; omega) _) ?_
            clear hK K
            have zs := Box.new (g := wa.heap.size) #[.int .i64 0, .int .i64 0] 24 wa rfl
            have hC9 := (hCC _ _ hC0 hwa).alloc (by have := hC0.size; have := hwa.size; omega) (.cells #[.int .i64 0, .int .i64 0] 24)
            have hga : wr.heap.size ≤ wa.heap.size := Nat.le_trans hC0.size hwa.size
            have yb := (zb.below hwa).old (.cells #[.int .i64 0, .int .i64 0] 24)
            have hnba : gb < wa.heap.size := (zb.below hwa).lt
            clear zb
            have yc := (zc.below hwa).old (.cells #[.int .i64 0, .int .i64 0] 24)
            have hnca : gc < wa.heap.size := (zc.below hwa).lt
            clear zc
            clear hwa hC0
            obtain ⟨ga, hG⟩ : ∃ G, G = wa.heap.size := ⟨_, rfl⟩
            obtain ⟨wA, hWA⟩ : ∃ X, X = wa.alloc (.cells #[.int .i64 0, .int .i64 0] 24) := ⟨_, rfl⟩
            rw [← hWA] at zs hC9 yb yc ⊢
            rw [← hG] at zs hga hnba hnca ⊢
            clear hG hWA
            have hC0 := hC9
            have za := zs
            have zb := yb
            have zc := yc
            clear hC9 zs yb yc
            (refine wpAnyG_one (i := 10) (by kernel_rfl) rfl (by rfl) (fun wa hwa K hK => ?_))
            refine wp_store_box (za.below hwa) rfl rfl rfl rfl (by kernel_rfl) (by simp [Value.oneCell']) (fun w7s zs ho => ?_); dsimp only [Act.put]
            refine hK _ _ ((hCC _ _ hC0 hwa).trans (ho.below hga)) ?_
            clear hK K
            have hC9 := (hCC _ _ hC0 hwa).trans (ho.below hga)
            have zt : Box ga #[.int .i64 (fz k), .int .i64 (fz k)] 24 w7s := zs
            have yb := ho.box (zb.below hwa) (by omega)
            have yc := ho.box (zc.below hwa) (by omega)
            clear hC0 zs za ho hwa zb zc
            have hC0 := hC9
            have za := zt
            have zb := yb
            have zc := yc
            clear hC9 zt yb yc
            refine wpAnyG_done (by kernel_rfl) (fun wq9 hwq9 => ?_) _
            have yb := zb.below hwq9
            have yc := zc.below hwq9
            have ya := za.below hwq9
            have zw := hCC _ _ hC0 hwq9
            clear hC0 hCC hwq9 zb zc za
            have zb := yb
            have zc := yc
            have za := ya
            clear yb yc ya
            obtain ⟨wq, hW⟩ : ∃ X, X = wq9 := ⟨_, rfl⟩
            rw [← hW] at zw zb zc za ⊢
            clear hW
            have bq := RL.out.B.below zw
            have b0 := bq.cell 0 (v := .bool b.weighs) rfl
            have b7 := bq.lt
            rw [HW.out] at b0
            clear bq
            go_wp2_with fail
            clear b0 b7 za
            have LB := RL.out.low.trans (zw.mono RL.out.low.size)
            have hbu := hb.trans (zw.mono hb.size)
            have xq := RL.out.X.below zw
            have bq := RL.out.B.below zw
            clear zw
            have TE := tank_ends HE.out HW.out
            rw [← HV.out] at TE
            obtain ⟨A1, hA1⟩ : ∃ z, z = ((lowB b).waterR (tkX x.beg.hi x.fin.lo)).1 := ⟨_, rfl⟩
            have HA := Lib.hid (fun (W' : World) (hb' : Below w.heap.size w W') => show Calls Try.prog 11 #[.agg #[.bool b.weighs, .slice oa b.n cap, .int .i64 0, .int .i64 b.buoy.lo, .int .i64 b.buoy.lo, .int .i64 b.air.lo, .int .i64 b.air.lo], .agg #[.int .i64 x.beg.hi, .int .i64 x.beg.hi, .int .i64 x.fin.lo, .int .i64 x.fin.lo, .int .i64 0, .int .i64 0]] W' (fun e w' => e = .returned (.tuple #[A1.val, .int .i64 0]) ∧ Below W'.heap.size W' w') from by
              have h9 := Water_any (lowB b) (tkX x.beg.hi x.fin.lo) oa cap W' (show b.n ≤ 1000000 by omega) hcap (HT.out.mono hb')
              rw [TE.1.1, ← hA1] at h9
              exact h9)
            obtain ⟨C1, hC1⟩ : ∃ z, z = ((highB b).waterR (tkX x.beg.lo x.fin.hi)).1 := ⟨_, rfl⟩
            have HC := Lib.hid (fun (W' : World) (hb' : Below w.heap.size w W') => show Calls Try.prog 11 #[.agg #[.bool b.weighs, .slice oa b.n cap, .int .i64 0, .int .i64 b.buoy.hi, .int .i64 b.buoy.hi, .int .i64 b.air.hi, .int .i64 b.air.hi], .agg #[.int .i64 x.beg.lo, .int .i64 x.beg.lo, .int .i64 x.fin.hi, .int .i64 x.fin.hi, .int .i64 0, .int .i64 0]] W' (fun e w' => e = .returned (.tuple #[C1.val, .int .i64 0]) ∧ Below W'.heap.size W' w') from by
              have h9 := Water_any (highB b) (tkX x.beg.lo x.fin.hi) oa cap W' (show b.n ≤ 1000000 by omega) hcap (HT.out.mono hb')
              rw [TE.2.1, ← hC1] at h9
              exact h9)
            rw [← hA1, ← hC1] at TE
            have T1 := Lib.hid TE.1.2
            have T2 := Lib.hid TE.2.2
            clear TE hA1 hC1
            go_wp2_with fail
            have hCC : ∀ A B : World, Below wq.heap.size wq A → Below A.heap.size A B → Below wq.heap.size wq B := fun A B h1 h2 => h1.trans (h2.mono h1.size)
            have hC0 : Below wq.heap.size wq wq.drew := (Below.refl _ _).drew
            refine wp_region_garb (Below wq.heap.size wq) (by kernel_rfl) ?_
            (refine wpAnyG_take (i := 0) hCC hC0 rfl (by kernel_rfl) (by kernel_rfl) (by kernel_rfl) (fun _ _ _ _ h => h) (by rfl) ?_; apply Exists.intro; refine ⟨fun w1 h1 K hK => ?_, ?_⟩; · (have f := fun W9 : Aft w1 => zb.below (hCC _ _ h1 W9.below); have f0 : ∀ W : Aft w1, W.val.cell? ⟨gb, 0, none⟩ = some (.bool b.weighs) := fun W => (f W).cell 0 rfl; have f1 : ∀ W : Aft w1, W.val.cell? ⟨gb, 1, none⟩ = some (.slice oa b.n cap) := fun W => (f W).cell 1 rfl; have f2 : ∀ W : Aft w1, W.val.cell? ⟨gb, 2, none⟩ = some (.int .i64 0) := fun W => (f W).cell 2 rfl; have f3 : ∀ W : Aft w1, W.val.cell? ⟨gb, 3, none⟩ = some (.int .i64 b.buoy.lo) := fun W => (f W).cell 3 rfl; have f4 : ∀ W : Aft w1, W.val.cell? ⟨gb, 4, none⟩ = some (.int .i64 b.buoy.lo) := fun W => (f W).cell 4 rfl; have f5 : ∀ W : Aft w1, W.val.cell? ⟨gb, 5, none⟩ = some (.int .i64 b.air.lo) := fun W => (f W).cell 5 rfl; have f6 : ∀ W : Aft w1, W.val.cell? ⟨gb, 6, none⟩ = some (.int .i64 b.air.lo) := fun W => (f W).cell 6 rfl; go_big_quiet_op; first | exact hK | fail))
            (refine wpAnyG_take (i := 1) hCC hC0 rfl (by kernel_rfl) (by kernel_rfl) (by kernel_rfl) (fun _ _ _ _ h => h) (by rfl) ?_; apply Exists.intro; refine ⟨fun w1 h1 K hK => ?_, ?_⟩; · ( go_big_quiet_op; first | exact hK | fail))
            (refine wpAnyG_take (i := 2) hCC hC0 rfl (by kernel_rfl) (by kernel_rfl) (by kernel_rfl) (fun _ _ _ _ h => h) (by rfl) ?_; apply Exists.intro; refine ⟨fun w1 h1 K hK => ?_, ?_⟩; · ( go_big_quiet_op; first | exact hK | fail))
            (refine wpAnyG_take (i := 3) hCC hC0 rfl (by kernel_rfl) (by kernel_rfl) (by kernel_rfl) (fun _ _ _ _ h => h) (by rfl) ?_; apply Exists.intro; refine ⟨fun w1 h1 K hK => ?_, ?_⟩; · (have f := fun W9 : Aft w1 => xq.below (hCC _ _ h1 W9.below); have f1 : ∀ W : Aft w1, W.val.cell? ⟨w.heap.size + 1, 1, none⟩ = some (.int .i64 x.beg.hi) := fun W => (f W).cell 1 rfl; go_big_quiet_op; first | exact hK | fail))
            (refine wpAnyG_take (i := 4) hCC hC0 rfl (by kernel_rfl) (by kernel_rfl) (by kernel_rfl) (fun _ _ _ _ h => h) (by rfl) ?_; apply Exists.intro; refine ⟨fun w1 h1 K hK => ?_, ?_⟩; · ( go_big_quiet_op; first | exact hK | fail))
            (refine wpAnyG_take (i := 5) hCC hC0 rfl (by kernel_rfl) (by kernel_rfl) (by kernel_rfl) (fun _ _ _ _ h => h) (by rfl) ?_; apply Exists.intro; refine ⟨fun w1 h1 K hK => ?_, ?_⟩; · ( go_big_quiet_op; first | exact hK | fail))
            (refine wpAnyG_take (i := 6) hCC hC0 rfl (by kernel_rfl) (by kernel_rfl) (by kernel_rfl) (fun _ _ _ _ h => h) (by rfl) ?_; apply Exists.intro; refine ⟨fun w1 h1 K hK => ?_, ?_⟩; · (have f := fun W9 : Aft w1 => xq.below (hCC _ _ h1 W9.below); have f1 : ∀ W : Aft w1, W.val.cell? ⟨w.heap.size + 1, 1, none⟩ = some (.int .i64 x.beg.hi) := fun W => (f W).cell 1 rfl; go_big_quiet_op; first | exact hK | fail))
            (refine wpAnyG_take (i := 7) hCC hC0 rfl (by kernel_rfl) (by kernel_rfl) (by kernel_rfl) (fun _ _ _ _ h => h) (by rfl) ?_; apply Exists.intro; refine ⟨fun w1 h1 K hK => ?_, ?_⟩; · ( go_big_quiet_op; first | exact hK | exact ⟨_, fun W => aft_call (span_any _ _ _), hK⟩))
            (refine wpAnyG_take (i := 8) hCC hC0 rfl (by kernel_rfl) (by kernel_rfl) (by kernel_rfl) (fun _ _ _ _ h => h) (by rfl) ?_; apply Exists.intro; refine ⟨fun w1 h1 K hK => ?_, ?_⟩; · ( go_big_quiet_op; first | exact hK | fail))
            (refine wpAnyG_take (i := 9) hCC hC0 rfl (by kernel_rfl) (by kernel_rfl) (by kernel_rfl) (fun _ _ _ _ h => h) (by rfl) ?_; apply Exists.intro; refine ⟨fun w1 h1 K hK => ?_, ?_⟩; · ( go_big_quiet_op; first | exact hK | fail))
            (refine wpAnyG_take (i := 10) hCC hC0 rfl (by kernel_rfl) (by kernel_rfl) (by kernel_rfl) (fun _ _ _ _ h => h) (by rfl) ?_; apply Exists.intro; refine ⟨fun w1 h1 K hK => ?_, ?_⟩; · (have f := fun W9 : Aft w1 => xq.below (hCC _ _ h1 W9.below); have f2 : ∀ W : Aft w1, W.val.cell? ⟨w.heap.size + 1, 2, none⟩ = some (.int .i64 x.fin.lo) := fun W => (f W).cell 2 rfl; go_big_quiet_op; first | exact hK | fail))
            (refine wpAnyG_take (i := 11) hCC hC0 rfl (by kernel_rfl) (by kernel_rfl) (by kernel_rfl) (fun _ _ _ _ h => h) (by rfl) ?_; apply Exists.intro; refine ⟨fun w1 h1 K hK => ?_, ?_⟩; · ( go_big_quiet_op; first | exact hK | fail))
            (refine wpAnyG_take (i := 12) hCC hC0 rfl (by kernel_rfl) (by kernel_rfl) (by kernel_rfl) (fun _ _ _ _ h => h) (by rfl) ?_; apply Exists.intro; refine ⟨fun w1 h1 K hK => ?_, ?_⟩; · ( go_big_quiet_op; first | exact hK | fail))
            (refine wpAnyG_take (i := 13) hCC hC0 rfl (by kernel_rfl) (by kernel_rfl) (by kernel_rfl) (fun _ _ _ _ h => h) (by rfl) ?_; apply Exists.intro; refine ⟨fun w1 h1 K hK => ?_, ?_⟩; · (have f := fun W9 : Aft w1 => xq.below (hCC _ _ h1 W9.below); have f2 : ∀ W : Aft w1, W.val.cell? ⟨w.heap.size + 1, 2, none⟩ = some (.int .i64 x.fin.lo) := fun W => (f W).cell 2 rfl; go_big_quiet_op; first | exact hK | fail))
            (refine wpAnyG_take (i := 14) hCC hC0 rfl (by kernel_rfl) (by kernel_rfl) (by kernel_rfl) (fun _ _ _ _ h => h) (by rfl) ?_; apply Exists.intro; refine ⟨fun w1 h1 K hK => ?_, ?_⟩; · ( go_big_quiet_op; first | exact hK | exact ⟨_, fun W => aft_call (span_any _ _ _), hK⟩))
            (refine wpAnyG_take (i := 15) hCC hC0 rfl (by kernel_rfl) (by kernel_rfl) (by kernel_rfl) (fun _ _ _ _ h => h) (by rfl) ?_; apply Exists.intro; refine ⟨fun w1 h1 K hK => ?_, ?_⟩; · ( go_big_quiet_op; first | exact hK | fail))
            (refine wpAnyG_take (i := 16) hCC hC0 rfl (by kernel_rfl) (by kernel_rfl) (by kernel_rfl) (fun _ _ _ _ h => h) (by rfl) ?_; apply Exists.intro; refine ⟨fun w1 h1 K hK => ?_, ?_⟩; · ( go_big_quiet_op; first | exact hK | exact ⟨_, fun W => aft_call (HA.out _ (LB.trans ((hCC _ _ h1 W.below).mono LB.size))), hK⟩))
            (refine wpAnyG_take (i := 17) hCC hC0 rfl (by kernel_rfl) (by kernel_rfl) (by kernel_rfl) (fun _ _ _ _ h => h) (by rfl) ?_; apply Exists.intro; refine ⟨fun w1 h1 K hK => ?_, ?_⟩; · ( go_big_quiet_op; first | exact hK | fail))
            (refine wpAnyG_take (i := 18) hCC hC0 rfl (by kernel_rfl) (by kernel_rfl) (by kernel_rfl) (fun _ _ _ _ h => h) (by rfl) ?_; apply Exists.intro; refine ⟨fun w1 h1 K hK => ?_, ?_⟩; · ( go_big_quiet_op; first | exact hK | fail))
            (refine wpAnyG_take (i := 19) hCC hC0 rfl (by kernel_rfl) (by kernel_rfl) (by kernel_rfl) (fun _ _ _ _ h => h) (by rfl) ?_; apply Exists.intro; refine ⟨fun w1 h1 K hK => ?_, ?_⟩; · ( go_big_quiet_op; first | exact hK | fail))
            (refine wpAnyG_one (i := 20) (by kernel_rfl) rfl (by rfl) (fun wa hwa K hK => ?_)); go_simp; refine hK _ _ ((hCC _ _ hC0 hwa).alloc (by have := hC0.size; have := hwa.size; omega) _) ?_; clear hK K
            have s9 := Box.new (g := wa.heap.size) #[.int .i64 0, .int .i64 0] 24 wa rfl
            have hC1 := (hCC _ _ hC0 hwa).alloc (by have := hC0.size; have := hwa.size; omega) (.cells #[.int .i64 0, .int .i64 0] 24)
            have hg9 : wq.heap.size ≤ wa.heap.size := Nat.le_trans hC0.size hwa.size
            clear hwa
            obtain ⟨g9, hG⟩ : ∃ G, G = wa.heap.size := ⟨_, rfl⟩
            obtain ⟨wA, hWA⟩ : ∃ X, X = wa.alloc (.cells #[.int .i64 0, .int .i64 0] 24) := ⟨_, rfl⟩
            rw [← hG] at s9 hg9 ⊢
            rw [← hWA] at s9 hC1 ⊢
            clear hG hWA
            (refine wpAnyG_one (i := 21) (by kernel_rfl) rfl (by rfl) (fun wb hwb K hK => ?_)); refine wp_store_box (s9.below hwb) rfl rfl rfl rfl (by kernel_rfl) (by simp [Value.oneCell']) (fun wc s8 ho => ?_); dsimp only [Act.put]; refine hK _ _ ((hCC _ _ hC1 hwb).trans (ho.below hg9)) ?_; clear hK K
            have hC2 := (hCC _ _ hC1 hwb).trans (ho.below hg9)
            clear s9 hC1 ho hwb
            (refine wpAnyG_one (i := 22) (by kernel_rfl) rfl (by rfl) (fun wd hwd K hK => ?_)); go_simp; refine hK _ _ (hCC _ _ hC2 hwd) ?_; clear hK K
            refine wpAnyG_done (by kernel_rfl) (fun wz hwz => ?_) _
            have h9 := (s8.below hwd).below hwz
            have hz9 := hCC _ _ (hCC _ _ hC2 hwd) hwz
            clear s8 hC2 hwd hwz hC0 hCC
            have yL := LB.trans (hz9.mono LB.size)
            have yU := hbu.trans (hz9.mono hbu.size)
            have yxq := xq.below hz9
            have ybq := bq.below hz9
            have yc := zc.below hz9
            obtain ⟨gA, hG⟩ : ∃ z, z = g9 := ⟨_, rfl⟩
            obtain ⟨wv, hW⟩ : ∃ X, X = wz := ⟨_, rfl⟩
            rw [← hG, ← hW] at h9
            rw [← hW] at yL yU yxq ybq yc ⊢
            rw [← hG] at ⊢
            clear hG hW hz9 hg9 LB hbu xq bq zc
            have zA := h9
            have LB := yL
            have hbu := yU
            have xq := yxq
            have bq := ybq
            have zc := yc
            clear h9 yL yU yxq ybq yc
            clear zb
            go_wp2_with fail
            have hCC : ∀ A B : World, Below wv.heap.size wv A → Below A.heap.size A B → Below wv.heap.size wv B := fun A B h1 h2 => h1.trans (h2.mono h1.size)
            have hC0 : Below wv.heap.size wv wv.drew := (Below.refl _ _).drew
            refine wp_region_garb (Below wv.heap.size wv) (by kernel_rfl) ?_
            (refine wpAnyG_take (i := 0) hCC hC0 rfl (by kernel_rfl) (by kernel_rfl) (by kernel_rfl) (fun _ _ _ _ h => h) (by rfl) ?_; apply Exists.intro; refine ⟨fun w1 h1 K hK => ?_, ?_⟩; · (have f := fun W9 : Aft w1 => zc.below (hCC _ _ h1 W9.below); have f0 : ∀ W : Aft w1, W.val.cell? ⟨gc, 0, none⟩ = some (.bool b.weighs) := fun W => (f W).cell 0 rfl; have f1 : ∀ W : Aft w1, W.val.cell? ⟨gc, 1, none⟩ = some (.slice oa b.n cap) := fun W => (f W).cell 1 rfl; have f2 : ∀ W : Aft w1, W.val.cell? ⟨gc, 2, none⟩ = some (.int .i64 0) := fun W => (f W).cell 2 rfl; have f3 : ∀ W : Aft w1, W.val.cell? ⟨gc, 3, none⟩ = some (.int .i64 b.buoy.hi) := fun W => (f W).cell 3 rfl; have f4 : ∀ W : Aft w1, W.val.cell? ⟨gc, 4, none⟩ = some (.int .i64 b.buoy.hi) := fun W => (f W).cell 4 rfl; have f5 : ∀ W : Aft w1, W.val.cell? ⟨gc, 5, none⟩ = some (.int .i64 b.air.hi) := fun W => (f W).cell 5 rfl; have f6 : ∀ W : Aft w1, W.val.cell? ⟨gc, 6, none⟩ = some (.int .i64 b.air.hi) := fun W => (f W).cell 6 rfl; go_big_quiet_op; first | exact hK | fail))
            (refine wpAnyG_take (i := 1) hCC hC0 rfl (by kernel_rfl) (by kernel_rfl) (by kernel_rfl) (fun _ _ _ _ h => h) (by rfl) ?_; apply Exists.intro; refine ⟨fun w1 h1 K hK => ?_, ?_⟩; · ( go_big_quiet_op; first | exact hK | fail))
            (refine wpAnyG_take (i := 2) hCC hC0 rfl (by kernel_rfl) (by kernel_rfl) (by kernel_rfl) (fun _ _ _ _ h => h) (by rfl) ?_; apply Exists.intro; refine ⟨fun w1 h1 K hK => ?_, ?_⟩; · ( go_big_quiet_op; first | exact hK | fail))
            (refine wpAnyG_take (i := 3) hCC hC0 rfl (by kernel_rfl) (by kernel_rfl) (by kernel_rfl) (fun _ _ _ _ h => h) (by rfl) ?_; apply Exists.intro; refine ⟨fun w1 h1 K hK => ?_, ?_⟩; · (have f := fun W9 : Aft w1 => xq.below (hCC _ _ h1 W9.below); have f0 : ∀ W : Aft w1, W.val.cell? ⟨w.heap.size + 1, 0, none⟩ = some (.int .i64 x.beg.lo) := fun W => (f W).cell 0 rfl; go_big_quiet_op; first | exact hK | fail))
            (refine wpAnyG_take (i := 4) hCC hC0 rfl (by kernel_rfl) (by kernel_rfl) (by kernel_rfl) (fun _ _ _ _ h => h) (by rfl) ?_; apply Exists.intro; refine ⟨fun w1 h1 K hK => ?_, ?_⟩; · ( go_big_quiet_op; first | exact hK | fail))
            (refine wpAnyG_take (i := 5) hCC hC0 rfl (by kernel_rfl) (by kernel_rfl) (by kernel_rfl) (fun _ _ _ _ h => h) (by rfl) ?_; apply Exists.intro; refine ⟨fun w1 h1 K hK => ?_, ?_⟩; · ( go_big_quiet_op; first | exact hK | fail))
            (refine wpAnyG_take (i := 6) hCC hC0 rfl (by kernel_rfl) (by kernel_rfl) (by kernel_rfl) (fun _ _ _ _ h => h) (by rfl) ?_; apply Exists.intro; refine ⟨fun w1 h1 K hK => ?_, ?_⟩; · (have f := fun W9 : Aft w1 => xq.below (hCC _ _ h1 W9.below); have f0 : ∀ W : Aft w1, W.val.cell? ⟨w.heap.size + 1, 0, none⟩ = some (.int .i64 x.beg.lo) := fun W => (f W).cell 0 rfl; go_big_quiet_op; first | exact hK | fail))
            (refine wpAnyG_take (i := 7) hCC hC0 rfl (by kernel_rfl) (by kernel_rfl) (by kernel_rfl) (fun _ _ _ _ h => h) (by rfl) ?_; apply Exists.intro; refine ⟨fun w1 h1 K hK => ?_, ?_⟩; · ( go_big_quiet_op; first | exact hK | exact ⟨_, fun W => aft_call (span_any _ _ _), hK⟩))
            (refine wpAnyG_take (i := 8) hCC hC0 rfl (by kernel_rfl) (by kernel_rfl) (by kernel_rfl) (fun _ _ _ _ h => h) (by rfl) ?_; apply Exists.intro; refine ⟨fun w1 h1 K hK => ?_, ?_⟩; · ( go_big_quiet_op; first | exact hK | fail))
            (refine wpAnyG_take (i := 9) hCC hC0 rfl (by kernel_rfl) (by kernel_rfl) (by kernel_rfl) (fun _ _ _ _ h => h) (by rfl) ?_; apply Exists.intro; refine ⟨fun w1 h1 K hK => ?_, ?_⟩; · ( go_big_quiet_op; first | exact hK | fail))
            (refine wpAnyG_take (i := 10) hCC hC0 rfl (by kernel_rfl) (by kernel_rfl) (by kernel_rfl) (fun _ _ _ _ h => h) (by rfl) ?_; apply Exists.intro; refine ⟨fun w1 h1 K hK => ?_, ?_⟩; · (have f := fun W9 : Aft w1 => xq.below (hCC _ _ h1 W9.below); have f3 : ∀ W : Aft w1, W.val.cell? ⟨w.heap.size + 1, 3, none⟩ = some (.int .i64 x.fin.hi) := fun W => (f W).cell 3 rfl; go_big_quiet_op; first | exact hK | fail))
            (refine wpAnyG_take (i := 11) hCC hC0 rfl (by kernel_rfl) (by kernel_rfl) (by kernel_rfl) (fun _ _ _ _ h => h) (by rfl) ?_; apply Exists.intro; refine ⟨fun w1 h1 K hK => ?_, ?_⟩; · ( go_big_quiet_op; first | exact hK | fail))
            (refine wpAnyG_take (i := 12) hCC hC0 rfl (by kernel_rfl) (by kernel_rfl) (by kernel_rfl) (fun _ _ _ _ h => h) (by rfl) ?_; apply Exists.intro; refine ⟨fun w1 h1 K hK => ?_, ?_⟩; · ( go_big_quiet_op; first | exact hK | fail))
            (refine wpAnyG_take (i := 13) hCC hC0 rfl (by kernel_rfl) (by kernel_rfl) (by kernel_rfl) (fun _ _ _ _ h => h) (by rfl) ?_; apply Exists.intro; refine ⟨fun w1 h1 K hK => ?_, ?_⟩; · (have f := fun W9 : Aft w1 => xq.below (hCC _ _ h1 W9.below); have f3 : ∀ W : Aft w1, W.val.cell? ⟨w.heap.size + 1, 3, none⟩ = some (.int .i64 x.fin.hi) := fun W => (f W).cell 3 rfl; go_big_quiet_op; first | exact hK | fail))
            (refine wpAnyG_take (i := 14) hCC hC0 rfl (by kernel_rfl) (by kernel_rfl) (by kernel_rfl) (fun _ _ _ _ h => h) (by rfl) ?_; apply Exists.intro; refine ⟨fun w1 h1 K hK => ?_, ?_⟩; · ( go_big_quiet_op; first | exact hK | exact ⟨_, fun W => aft_call (span_any _ _ _), hK⟩))
            (refine wpAnyG_take (i := 15) hCC hC0 rfl (by kernel_rfl) (by kernel_rfl) (by kernel_rfl) (fun _ _ _ _ h => h) (by rfl) ?_; apply Exists.intro; refine ⟨fun w1 h1 K hK => ?_, ?_⟩; · ( go_big_quiet_op; first | exact hK | fail))
            (refine wpAnyG_take (i := 16) hCC hC0 rfl (by kernel_rfl) (by kernel_rfl) (by kernel_rfl) (fun _ _ _ _ h => h) (by rfl) ?_; apply Exists.intro; refine ⟨fun w1 h1 K hK => ?_, ?_⟩; · ( go_big_quiet_op; first | exact hK | exact ⟨_, fun W => aft_call (HC.out _ (LB.trans ((hCC _ _ h1 W.below).mono LB.size))), hK⟩))
            (refine wpAnyG_take (i := 17) hCC hC0 rfl (by kernel_rfl) (by kernel_rfl) (by kernel_rfl) (fun _ _ _ _ h => h) (by rfl) ?_; apply Exists.intro; refine ⟨fun w1 h1 K hK => ?_, ?_⟩; · ( go_big_quiet_op; first | exact hK | fail))
            (refine wpAnyG_take (i := 18) hCC hC0 rfl (by kernel_rfl) (by kernel_rfl) (by kernel_rfl) (fun _ _ _ _ h => h) (by rfl) ?_; apply Exists.intro; refine ⟨fun w1 h1 K hK => ?_, ?_⟩; · ( go_big_quiet_op; first | exact hK | fail))
            (refine wpAnyG_take (i := 19) hCC hC0 rfl (by kernel_rfl) (by kernel_rfl) (by kernel_rfl) (fun _ _ _ _ h => h) (by rfl) ?_; apply Exists.intro; refine ⟨fun w1 h1 K hK => ?_, ?_⟩; · ( go_big_quiet_op; first | exact hK | fail))
            (refine wpAnyG_one (i := 20) (by kernel_rfl) rfl (by rfl) (fun wa hwa K hK => ?_)); go_simp; refine hK _ _ ((hCC _ _ hC0 hwa).alloc (by have := hC0.size; have := hwa.size; omega) _) ?_; clear hK K
            have s9 := Box.new (g := wa.heap.size) #[.int .i64 0, .int .i64 0] 24 wa rfl
            have hC1 := (hCC _ _ hC0 hwa).alloc (by have := hC0.size; have := hwa.size; omega) (.cells #[.int .i64 0, .int .i64 0] 24)
            have hg9 : wv.heap.size ≤ wa.heap.size := Nat.le_trans hC0.size hwa.size
            clear hwa
            obtain ⟨g9, hG⟩ : ∃ G, G = wa.heap.size := ⟨_, rfl⟩
            obtain ⟨wA, hWA⟩ : ∃ X, X = wa.alloc (.cells #[.int .i64 0, .int .i64 0] 24) := ⟨_, rfl⟩
            rw [← hG] at s9 hg9 ⊢
            rw [← hWA] at s9 hC1 ⊢
            clear hG hWA
            (refine wpAnyG_one (i := 21) (by kernel_rfl) rfl (by rfl) (fun wb hwb K hK => ?_)); refine wp_store_box (s9.below hwb) rfl rfl rfl rfl (by kernel_rfl) (by simp [Value.oneCell']) (fun wc s8 ho => ?_); dsimp only [Act.put]; refine hK _ _ ((hCC _ _ hC1 hwb).trans (ho.below hg9)) ?_; clear hK K
            have hC2 := (hCC _ _ hC1 hwb).trans (ho.below hg9)
            clear s9 hC1 ho hwb
            (refine wpAnyG_one (i := 22) (by kernel_rfl) rfl (by rfl) (fun wd hwd K hK => ?_)); go_simp; refine hK _ _ (hCC _ _ hC2 hwd) ?_; clear hK K
            refine wpAnyG_done (by kernel_rfl) (fun wz hwz => ?_) _
            have h9 := (s8.below hwd).below hwz
            have hz9 := hCC _ _ (hCC _ _ hC2 hwd) hwz
            clear s8 hC2 hwd hwz hC0 hCC
            have yL := LB.trans (hz9.mono LB.size)
            have yU := hbu.trans (hz9.mono hbu.size)
            have yxq := xq.below hz9
            have ybq := bq.below hz9
            have yA := zA.below hz9
            obtain ⟨gC, hG⟩ : ∃ z, z = g9 := ⟨_, rfl⟩
            obtain ⟨ww, hW⟩ : ∃ X, X = wz := ⟨_, rfl⟩
            rw [← hG, ← hW] at h9
            rw [← hW] at yL yU yxq ybq yA ⊢
            rw [← hG] at ⊢
            clear hG hW hz9 hg9 LB hbu xq bq zA
            have zC := h9
            have LB := yL
            have hbu := yU
            have xq := yxq
            have bq := ybq
            have zA := yA
            clear h9 yL yU yxq ybq yA
            clear zc
            go_wp2_with fail
            obtain ⟨hoff, -⟩ := water_bounds HE.out
            have t1 := T1.out
            have t2 := T2.out
            have f2 : ∀ W : Aft ww, W.val.cell? ⟨w.heap.size, 2, none⟩ = some (.int .i64 b.off) := fun W => (bq.below W.below).cell 2 rfl
            have e0 : ∀ W : Aft ww, W.val.cell? ⟨gA, 0, none⟩ = some (.int .i64 A1.lo) := fun W => (zA.below W.below).cell 0 rfl
            have e1 : ∀ W : Aft ww, W.val.cell? ⟨gC, 1, none⟩ = some (.int .i64 C1.hi) := fun W => (zC.below W.below).cell 1 rfl
            have V0 : IntKind.i64.wrap (2 * b.off) = 2 * b.off := IntWalk.i64_in _ (by omega)
            have V1 : IntKind.i64.wrap (A1.lo - 2 * b.off) = A1.lo - 2 * b.off := IntWalk.i64_in _ (by omega)
            have V2 : IntKind.i64.wrap (C1.hi + 2 * b.off) = C1.hi + 2 * b.off := IntWalk.i64_in _ (by omega)
            refine wp_region_aft (by kernel_rfl) (by kernel_rfl) ?_
            repeat (go_big_quiet_step (fail))
            refine wpQuiet_nil ?_
            intro WA
            obtain ⟨wy, hwy⟩ : ∃ X, X = WA.val := ⟨_, rfl⟩
            have hby := WA.below
            rw [← hwy] at hby ⊢
            clear hwy WA
            clear f2 e0 e1 V0 V1 V2 hoff t1 t2
            have RLO := Lib.hid (lowK_tank (x := x) (f := fz) (k := k) HW.out)
            rw [← HV.out] at RLO
            go_wp2_with fail
            go_roundw
            case rel => exact ⟨k + 1, by omega, by go_num, by rw [RLO.out.1], by rw [RLO.out.2], fun _ h9 => (by rw [HW.out] at h9; cases h9), hbu.trans (hby.mono hbu.size)⟩
            case measure => simp [intOf]; omega
          · have hd1 : decide (k < K) = false := by simpa using hlt
            skip
            have hkK : k = K := by omega
            subst hkK
            obtain ⟨e1, e2⟩ := HEK.out (hheavy (by omega))
            rw [e1, e2]
            clear e1 e2 hheavy
            obtain ⟨W7, hW⟩ : ∃ X, X = wr := ⟨_, rfl⟩
            rw [← hW] at hb ⊢
            clear hW
            have L_6 := Lib.hid (L_5.out.below hb)
            have KS_6 := Lib.hid (KS_5.out.below hb)
            have K9_4 := Lib.hid (K9_3.out.below hb)
            have HIA_1 := Lib.hid (HIA_0.out.mono hb)
            clear L_5 KS_5 K9_3 HIA_0 hb
            clear HIA_1
            go_wp2_with fail
            have f0 : ∀ W : Aft W7, W.val.cell? ⟨gv, 0, none⟩ = some (.int .i64 v.lo) := fun W => (K9_4.out.below W.below).cell 0 rfl
            have f1 : ∀ W : Aft W7, W.val.cell? ⟨gv, 1, none⟩ = some (.int .i64 v.hi) := fun W => (K9_4.out.below W.below).cell 1 rfl
            refine wp_region_aft (by kernel_rfl) (by kernel_rfl) ?_
            repeat (go_big_quiet_step ((go_at_call 31; exact aft_call (span_any _ _ _))))
            refine wpQuiet_nil ?_
            intro WA
            obtain ⟨wy, hwy⟩ : ∃ X, X = WA.val := ⟨_, rfl⟩
            have hby := WA.below
            rw [← hwy] at hby ⊢
            clear hwy WA
            clear f0 f1
            have L_7 := Lib.hid (L_6.out.below hby)
            have KS_7 := Lib.hid (KS_6.out.below hby)
            have K9_5 := Lib.hid (K9_4.out.below hby)
            clear L_6 KS_6 K9_4 hby
            obtain ⟨W8, hW⟩ : ∃ X, X = wy := ⟨_, rfl⟩
            rw [← hW] at L_7 KS_7 K9_5  ⊢
            clear hW
            obtain ⟨b0, b1, b2, b3, b4, b5, b6, b7⟩ := BB.cells (b := b) L_7.out.B
            obtain ⟨c0, c1, c2, c3, c4, c5, c6⟩ := CB.cells (x := x) L_7.out.X
            have k0 := KS_7.out.cell 0 (v := .int .i64 s.lo) rfl
            have k1 := KS_7.out.cell 1 (v := .int .i64 s.hi) rfl
            have k2 := KS_7.out.lt
            go_wp2_with fail
            refine (Flow_any b x s oa cap _ (by omega) hcap (HT.out.mono L_7.out.low)).mono ?_
            rintro e w8 ⟨rfl, hb8⟩
            clear k0 k1 k2
            obtain ⟨fs, hfs⟩ : ∃ z, z = (b.flowR x s).1 := ⟨_, rfl⟩
            obtain ⟨fe, hfe⟩ : ∃ z, z = (b.flowR x s).2 := ⟨_, rfl⟩
            rw [← hfs, ← hfe]
            have HFS := Lib.hid hfs
            have HFE := Lib.hid hfe
            clear hfs hfe
            clear b0 b1 b2 b3 b4 b5 b6 b7 c0 c1 c2 c3 c4 c5 c6
            have hbE := hb8.alloc hb8.size (.cells #[.int .i64 fs.lo, .int .i64 fs.hi] 24)
            have T9 := Box.new (g := w8.heap.size) #[.int .i64 fs.lo, .int .i64 fs.hi] 24 w8 rfl
            have L_8 := Lib.hid (L_7.out.below hbE)
            have KS_8 := Lib.hid (KS_7.out.below hbE)
            have K9_6 := Lib.hid (K9_5.out.below hbE)
            clear L_7 KS_7 K9_5 hbE
            clear hb8
            go_upto_region 41 with fail
            obtain ⟨gf, hg⟩ : ∃ n, n = w8.heap.size := ⟨_, rfl⟩
            obtain ⟨W9, hW⟩ : ∃ X, X = w8.alloc (.cells #[.int .i64 fs.lo, .int .i64 fs.hi] 24) := ⟨_, rfl⟩
            rw [← hW] at L_8 KS_8 K9_6 T9 ⊢
            rw [← hg] at T9 ⊢
            clear hW hg
            have K29_0 := Lib.hid T9
            clear T9
            by_cases hfe0 : fe = 0
            · have hfo : (b.flowR x s).2 = 0 := by rw [← HFE.out]; exact hfe0
              obtain ⟨hsp, hfs⟩ := flow_ok hfo
              rw [← HFS.out, ← HV.out] at hfs
              simp only [spanB, decide_eq_true_eq] at hsp
              obtain ⟨s1, s2, s3⟩ := hsp
              have FE := flow_ends (v := v) (s := s) (by omega) (by omega)
              have elo : fs.lo = rnd 0 (v.lo * 3600) s.hi := by rw [hfs]
              have ehi : fs.hi = rnd 1 (v.hi * 3600) s.lo := by rw [hfs]
              rw [← elo, ← ehi] at FE
              obtain ⟨⟨F1, F2⟩, F3, F4⟩ := FE
              clear hfs elo ehi hfo
              have b1 := fac_bd (B := 1000000000000000000) (show 1 ≤ s.hi by omega) F1 F2 (by omega) (by omega)
              have b2 := fac_up (B := 1000000000000000000) (by omega) s1 F3 F4 (by omega) (by omega)
              have m1 : 0 ≤ fs.lo * s.hi := Int.mul_nonneg b1.1 (by omega)
              have m2 : (fs.lo + 1) * s.hi = fs.lo * s.hi + s.hi := by rw [Int.add_mul, Int.one_mul]
              have m3 : (fs.hi - 1) * s.lo = fs.hi * s.lo - s.lo := by rw [Int.sub_mul, Int.one_mul]
              have m4 : 0 ≤ fs.hi * s.lo := Int.mul_nonneg b2.1 (by omega)
              have V1 : IntKind.i64.wrap (fs.lo * s.hi) = fs.lo * s.hi := IntWalk.i64_in _ (by omega)
              have V2 : IntKind.i64.wrap (v.lo * 3600) = v.lo * 3600 := IntWalk.i64_in _ (by omega)
              have V3 : IntKind.i64.wrap (fs.lo + 1) = fs.lo + 1 := IntWalk.i64_in _ (by omega)
              have V4 : IntKind.i64.wrap ((fs.lo + 1) * s.hi) = (fs.lo + 1) * s.hi := IntWalk.i64_in _ (by omega)
              have V5 : IntKind.i64.wrap (fs.hi * s.lo) = fs.hi * s.lo := IntWalk.i64_in _ (by omega)
              have V6 : IntKind.i64.wrap (v.hi * 3600) = v.hi * 3600 := IntWalk.i64_in _ (by omega)
              have V7 : IntKind.i64.wrap (fs.hi - 1) = fs.hi - 1 := IntWalk.i64_in _ (by omega)
              have V8 : IntKind.i64.wrap ((fs.hi - 1) * s.lo) = (fs.hi - 1) * s.lo := IntWalk.i64_in _ (by omega)
              have z1 : decide (v.lo * 3600 < fs.lo * s.hi) = false := by simp; omega
              have z2 : decide ((fs.lo + 1) * s.hi ≤ v.lo * 3600) = false := by simp; omega
              have z3 : decide (fs.hi * s.lo < v.hi * 3600) = false := by simp; omega
              have z4 : decide (v.hi * 3600 ≤ (fs.hi - 1) * s.lo) = false := by simp; omega
              clear F1 F2 F3 F4 b1 b2 m1 m2 m3 m4 HFE HFS
              subst hfe0
              have k0 := KS_8.out.cell 0 (v := .int .i64 s.lo) rfl
              have k1 := KS_8.out.cell 1 (v := .int .i64 s.hi) rfl
              have k2 := KS_8.out.lt
              have v0 := K9_6.out.cell 0 (v := .int .i64 v.lo) rfl
              have v1 := K9_6.out.cell 1 (v := .int .i64 v.hi) rfl
              have v2 := K9_6.out.lt
              have u0 := K29_0.out.cell 0 (v := .int .i64 fs.lo) rfl
              have u1 := K29_0.out.cell 1 (v := .int .i64 fs.hi) rfl
              have u2 := K29_0.out.lt
              go_upto_region 43 with fail
              clear k0 k1 k2 v0 v1 v2 u0 u1 u2 z1 z2 z3 z4 V1 V2 V3 V4 V5 V6 V7 V8 s1 s2 s3
              as_aux_lemma =>
                skip
                obtain ⟨b0, b1, b2, b3, b4, b5, b6, b7⟩ := BB.cells (b := b) L_8.out.B
                obtain ⟨c0, c1, c2, c3, c4, c5, c6⟩ := CB.cells (x := x) L_8.out.X
                go_wp2_with fail
                refine (Errors_any b x oa cap or m cr r _ (by omega) hcap (HT.out.mono L_8.out.low) (by omega) (HR.out.mono L_8.out.low)).mono ?_
                rintro e w9 ⟨o1, p1, rfl, hS1, hb9⟩
                clear b0 b1 b2 b3 b4 b5 b6 b7 c0 c1 c2 c3 c4 c5 c6
                have L_9 := Lib.hid (L_8.out.below hb9)
                have KS_9 := Lib.hid (KS_8.out.below hb9)
                have K9_7 := Lib.hid (K9_6.out.below hb9)
                have K29_1 := Lib.hid (K29_0.out.below hb9)
                clear L_8 KS_8 K9_6 K29_0 hb9
                have HS1_0 := Lib.hid hS1
                clear hS1
                by_cases hte : (b.testR x m r).2 = 0
                case neg =>
                  rw [cnt_ne hte]
                  generalize (b.testR x m r).2 = te at hte ⊢
                  have hne : (te != 0) = true := by simpa using hte
                  clear hte HS1_0
                  go_wp2_with fail
                  obtain ⟨WA, hW⟩ : ∃ X, X = w9 := ⟨_, rfl⟩
                  rw [← hW] at L_9 ⊢
                  clear hW
                  go_loopw [33] (fun v33 wr => v33 = .int .i64 0 ∧ Below WA.heap.size WA wr) (fun _ _ => 0)
                  case atStart => exact ⟨rfl, Below.refl _ _⟩
                  case round =>
                    obtain ⟨rfl, hb⟩ := hrel
                    have hlz := L_9.out.low.trans (hb.mono L_9.out.low.size)
                    go_wp2_with fail
                    refine (awake_any _).mono ?_
                    rintro e wz ⟨rfl, hbz⟩
                    go_wp2
                    go_ret
                    exact ⟨rfl, hlz.trans (hbz.mono hlz.size)⟩
                obtain ⟨-, -, tv, tm, trow⟩ := (testR_form b x m r).resolve_left (fun h9 => by omega)
                rw [← HV.out] at tv
                rw [hte, tv, cnt_zero] at HS1_0
                rw [hte, cnt_zero]
                have HROW := Lib.hid trow
                clear hte tv trow
                go_wp2_with fail
                obtain ⟨WA, hW⟩ : ∃ X, X = w9 := ⟨_, rfl⟩
                rw [← hW] at L_9 KS_9 K9_7 K29_1 HS1_0  ⊢
                clear hW
                go_loopw [33] (fun v33 wr => ∃ j : Nat, j ≤ m ∧ v33 = .int .i64 j ∧ Below WA.heap.size WA wr) (fun i _ => m - (intOf i).toNat)
                case atStart => exact ⟨0, Nat.zero_le _, rfl, Below.refl _ _⟩
                case round =>
                  obtain ⟨j, hj, rfl, hb⟩ := hrel
                  by_cases hlt : j < m
                  · as_aux_lemma =>
                    have hd1 : decide (j < m) = true := by simpa using hlt
                    have hj0 : (0 : Int) ≤ (j : Int) := by omega
                    have hj1 : (j : Int) < (m : Int) := by omega
                    obtain ⟨t1, o1', rfl, l1, q0, q1⟩ := (HS1_0.out.mono hb) j hlt
                    obtain ⟨tr, or', rfl, lr, r0, r1⟩ := (HR.out.mono (L_9.out.low.trans (hb.mono L_9.out.low.size))) j hlt
                    dsimp only at q0 q1
                    have EE := err_ends (v := v) (s := r j) y1 hv2
                    obtain ⟨ro0, ro1, ro2⟩ := HROW.out j hlt
                    generalize (errR v (r j)).lo = P at *
                    generalize (errR v (r j)).hi = Q at *
                    obtain ⟨⟨F1, F2⟩, F3, F4⟩ := EE
                    have b1 := fac_bd (B := 1000000000000000000) (show 1 ≤ v.hi by omega) F1 F2 (by omega) (by omega)
                    have b2 := fac_up (B := 1000000000000000000) (by omega) y1 F3 F4 (by omega) (by omega)
                    have m1 : 0 ≤ (P + 10000) * v.hi := Int.mul_nonneg b1.1 (by omega)
                    have m2 : (P + 10000 + 1) * v.hi = (P + 10000) * v.hi + v.hi := by rw [Int.add_mul _ 1, Int.one_mul]
                    have m3 : (Q + 10000 - 1) * v.lo = (Q + 10000) * v.lo - v.lo := by rw [Int.sub_mul, Int.one_mul]
                    have m4 : 0 ≤ (Q + 10000) * v.lo := Int.mul_nonneg b2.1 (by omega)
                    have f0 : ∀ W : Aft wr, W.val.cell? ⟨t1, o1' + j * 2, none⟩ = some (.int .i64 P) := fun W => (W.below.cell (p := ⟨t1, o1' + j * 2, none⟩) l1).trans q0
                    have f1 : ∀ W : Aft wr, W.val.cell? ⟨t1, o1' + j * 2 + 1, none⟩ = some (.int .i64 Q) := fun W => (W.below.cell (p := ⟨t1, o1' + j * 2 + 1, none⟩) l1).trans q1
                    have V1 : IntKind.i64.wrap (P + 10000) = P + 10000 := IntWalk.i64_in _ (by omega)
                    have V2 : IntKind.i64.wrap (Q + 10000) = Q + 10000 := IntWalk.i64_in _ (by omega)
                    go_wp2_with fail
                    refine wp_region_aft (by kernel_rfl) (by kernel_rfl) ?_
                    repeat (go_big_quiet_step (fail))
                    refine wpQuiet_nil ?_
                    intro WA
                    obtain ⟨wy, hwy⟩ : ∃ X, X = WA.val := ⟨_, rfl⟩
                    have hby := WA.below
                    rw [← hwy] at hby ⊢
                    clear hwy WA
                    have yb := hb.trans (hby.mono hb.size)
                    have l1' := Nat.lt_of_lt_of_le lr hby.size
                    have yr0 := (hby.cell (p := ⟨tr, or' + j * 2, none⟩) lr).trans r0
                    have yr1 := (hby.cell (p := ⟨tr, or' + j * 2 + 1, none⟩) lr).trans r1
                    clear f0 f1 q0 q1 l1 lr r0 r1 hb hby V1 V2
                    obtain ⟨A, hA⟩ : ∃ z, z = P + 10000 := ⟨_, rfl⟩
                    obtain ⟨C, hC⟩ : ∃ z, z = Q + 10000 := ⟨_, rfl⟩
                    rw [← hA] at F1 F2 b1 m1 m2
                    rw [← hC] at F3 F4 b2 m3 m4
                    rw [← hA, ← hC]
                    clear hA hC
                    have g0 : ∀ W : Aft wy, W.val.cell? ⟨tr, or' + j * 2, none⟩ = some (.int .i64 (r j).lo) := fun W => (W.below.cell (p := ⟨tr, or' + j * 2, none⟩) l1').trans yr0
                    have g1 : ∀ W : Aft wy, W.val.cell? ⟨tr, or' + j * 2 + 1, none⟩ = some (.int .i64 (r j).hi) := fun W => (W.below.cell (p := ⟨tr, or' + j * 2 + 1, none⟩) l1').trans yr1
                    have g2 : ∀ W : Aft wy, W.val.cell? ⟨gv, 0, none⟩ = some (.int .i64 v.lo) := fun W => ((K9_7.out.below yb).below W.below).cell 0 rfl
                    have g3 : ∀ W : Aft wy, W.val.cell? ⟨gv, 1, none⟩ = some (.int .i64 v.hi) := fun W => ((K9_7.out.below yb).below W.below).cell 1 rfl
                    have V1 : IntKind.i64.wrap (A * v.hi) = A * v.hi := IntWalk.i64_in _ (by omega)
                    have V2 : IntKind.i64.wrap (10000 * (r j).lo) = 10000 * (r j).lo := IntWalk.i64_in _ (by omega)
                    have V3 : IntKind.i64.wrap (A + 1) = A + 1 := IntWalk.i64_in _ (by omega)
                    have V4 : IntKind.i64.wrap ((A + 1) * v.hi) = (A + 1) * v.hi := IntWalk.i64_in _ (by omega)
                    have V5 : IntKind.i64.wrap (C * v.lo) = C * v.lo := IntWalk.i64_in _ (by omega)
                    have V6 : IntKind.i64.wrap (10000 * (r j).hi) = 10000 * (r j).hi := IntWalk.i64_in _ (by omega)
                    have V7 : IntKind.i64.wrap (C - 1) = C - 1 := IntWalk.i64_in _ (by omega)
                    have V8 : IntKind.i64.wrap ((C - 1) * v.lo) = (C - 1) * v.lo := IntWalk.i64_in _ (by omega)
                    have z1 : decide (10000 * (r j).lo < A * v.hi) = false := by simp; omega
                    have z2 : decide ((A + 1) * v.hi ≤ 10000 * (r j).lo) = false := by simp; omega
                    have z3 : decide (C * v.lo < 10000 * (r j).hi) = false := by simp; omega
                    have z4 : decide (10000 * (r j).hi ≤ (C - 1) * v.lo) = false := by simp; omega
                    clear F1 F2 F3 F4 b1 b2 m1 m2 m3 m4 yr0 yr1 ro0 ro1 ro2
                    go_wp2_with fail
                    refine wp_region_aft (by kernel_rfl) (by kernel_rfl) ?_
                    repeat (go_big_quiet_step (fail))
                    refine wpQuiet_nil ?_
                    intro WA
                    obtain ⟨wy, hwy⟩ : ∃ X, X = WA.val := ⟨_, rfl⟩
                    have hby := WA.below
                    rw [← hwy] at hby ⊢
                    clear hwy WA
                    clear g0 g1 g2 g3 V1 V2 V3 V4 V5 V6 V7 V8
                    go_wp2_with fail
                    go_roundw
                    case rel => exact ⟨j + 1, by omega, by go_num, yb.trans (hby.mono yb.size)⟩
                    case measure => simp [intOf]; omega
                  · have hd1 : decide (j < m) = false := by simpa using hlt
                    have hlz := L_9.out.low.trans (hb.mono L_9.out.low.size)
                    go_wp2_with fail
                    refine (awake_any _).mono ?_
                    rintro e wz ⟨rfl, hbz⟩
                    go_wp2
                    go_ret
                    exact ⟨rfl, hlz.trans (hbz.mono hlz.size)⟩
            · have z1 : (fe == 0) = false := by simpa using hfe0
              clear hfe0 HFE HFS
              go_upto_region 43 with fail
              clear z1
              as_aux_lemma =>
                skip
                obtain ⟨b0, b1, b2, b3, b4, b5, b6, b7⟩ := BB.cells (b := b) L_8.out.B
                obtain ⟨c0, c1, c2, c3, c4, c5, c6⟩ := CB.cells (x := x) L_8.out.X
                go_wp2_with fail
                refine (Errors_any b x oa cap or m cr r _ (by omega) hcap (HT.out.mono L_8.out.low) (by omega) (HR.out.mono L_8.out.low)).mono ?_
                rintro e w9 ⟨o1, p1, rfl, hS1, hb9⟩
                clear b0 b1 b2 b3 b4 b5 b6 b7 c0 c1 c2 c3 c4 c5 c6
                have L_9 := Lib.hid (L_8.out.below hb9)
                have KS_9 := Lib.hid (KS_8.out.below hb9)
                have K9_7 := Lib.hid (K9_6.out.below hb9)
                have K29_1 := Lib.hid (K29_0.out.below hb9)
                clear L_8 KS_8 K9_6 K29_0 hb9
                have HS1_0 := Lib.hid hS1
                clear hS1
                by_cases hte : (b.testR x m r).2 = 0
                case neg =>
                  rw [cnt_ne hte]
                  generalize (b.testR x m r).2 = te at hte ⊢
                  have hne : (te != 0) = true := by simpa using hte
                  clear hte HS1_0
                  go_wp2_with fail
                  obtain ⟨WA, hW⟩ : ∃ X, X = w9 := ⟨_, rfl⟩
                  rw [← hW] at L_9 ⊢
                  clear hW
                  go_loopw [33] (fun v33 wr => v33 = .int .i64 0 ∧ Below WA.heap.size WA wr) (fun _ _ => 0)
                  case atStart => exact ⟨rfl, Below.refl _ _⟩
                  case round =>
                    obtain ⟨rfl, hb⟩ := hrel
                    have hlz := L_9.out.low.trans (hb.mono L_9.out.low.size)
                    go_wp2_with fail
                    refine (awake_any _).mono ?_
                    rintro e wz ⟨rfl, hbz⟩
                    go_wp2
                    go_ret
                    exact ⟨rfl, hlz.trans (hbz.mono hlz.size)⟩
                obtain ⟨-, -, tv, tm, trow⟩ := (testR_form b x m r).resolve_left (fun h9 => by omega)
                rw [← HV.out] at tv
                rw [hte, tv, cnt_zero] at HS1_0
                rw [hte, cnt_zero]
                have HROW := Lib.hid trow
                clear hte tv trow
                go_wp2_with fail
                obtain ⟨WA, hW⟩ : ∃ X, X = w9 := ⟨_, rfl⟩
                rw [← hW] at L_9 KS_9 K9_7 K29_1 HS1_0  ⊢
                clear hW
                go_loopw [33] (fun v33 wr => ∃ j : Nat, j ≤ m ∧ v33 = .int .i64 j ∧ Below WA.heap.size WA wr) (fun i _ => m - (intOf i).toNat)
                case atStart => exact ⟨0, Nat.zero_le _, rfl, Below.refl _ _⟩
                case round =>
                  obtain ⟨j, hj, rfl, hb⟩ := hrel
                  by_cases hlt : j < m
                  · as_aux_lemma =>
                    have hd1 : decide (j < m) = true := by simpa using hlt
                    have hj0 : (0 : Int) ≤ (j : Int) := by omega
                    have hj1 : (j : Int) < (m : Int) := by omega
                    obtain ⟨t1, o1', rfl, l1, q0, q1⟩ := (HS1_0.out.mono hb) j hlt
                    obtain ⟨tr, or', rfl, lr, r0, r1⟩ := (HR.out.mono (L_9.out.low.trans (hb.mono L_9.out.low.size))) j hlt
                    dsimp only at q0 q1
                    have EE := err_ends (v := v) (s := r j) y1 hv2
                    obtain ⟨ro0, ro1, ro2⟩ := HROW.out j hlt
                    generalize (errR v (r j)).lo = P at *
                    generalize (errR v (r j)).hi = Q at *
                    obtain ⟨⟨F1, F2⟩, F3, F4⟩ := EE
                    have b1 := fac_bd (B := 1000000000000000000) (show 1 ≤ v.hi by omega) F1 F2 (by omega) (by omega)
                    have b2 := fac_up (B := 1000000000000000000) (by omega) y1 F3 F4 (by omega) (by omega)
                    have m1 : 0 ≤ (P + 10000) * v.hi := Int.mul_nonneg b1.1 (by omega)
                    have m2 : (P + 10000 + 1) * v.hi = (P + 10000) * v.hi + v.hi := by rw [Int.add_mul _ 1, Int.one_mul]
                    have m3 : (Q + 10000 - 1) * v.lo = (Q + 10000) * v.lo - v.lo := by rw [Int.sub_mul, Int.one_mul]
                    have m4 : 0 ≤ (Q + 10000) * v.lo := Int.mul_nonneg b2.1 (by omega)
                    have f0 : ∀ W : Aft wr, W.val.cell? ⟨t1, o1' + j * 2, none⟩ = some (.int .i64 P) := fun W => (W.below.cell (p := ⟨t1, o1' + j * 2, none⟩) l1).trans q0
                    have f1 : ∀ W : Aft wr, W.val.cell? ⟨t1, o1' + j * 2 + 1, none⟩ = some (.int .i64 Q) := fun W => (W.below.cell (p := ⟨t1, o1' + j * 2 + 1, none⟩) l1).trans q1
                    have V1 : IntKind.i64.wrap (P + 10000) = P + 10000 := IntWalk.i64_in _ (by omega)
                    have V2 : IntKind.i64.wrap (Q + 10000) = Q + 10000 := IntWalk.i64_in _ (by omega)
                    go_wp2_with fail
                    refine wp_region_aft (by kernel_rfl) (by kernel_rfl) ?_
                    repeat (go_big_quiet_step (fail))
                    refine wpQuiet_nil ?_
                    intro WA
                    obtain ⟨wy, hwy⟩ : ∃ X, X = WA.val := ⟨_, rfl⟩
                    have hby := WA.below
                    rw [← hwy] at hby ⊢
                    clear hwy WA
                    have yb := hb.trans (hby.mono hb.size)
                    have l1' := Nat.lt_of_lt_of_le lr hby.size
                    have yr0 := (hby.cell (p := ⟨tr, or' + j * 2, none⟩) lr).trans r0
                    have yr1 := (hby.cell (p := ⟨tr, or' + j * 2 + 1, none⟩) lr).trans r1
                    clear f0 f1 q0 q1 l1 lr r0 r1 hb hby V1 V2
                    obtain ⟨A, hA⟩ : ∃ z, z = P + 10000 := ⟨_, rfl⟩
                    obtain ⟨C, hC⟩ : ∃ z, z = Q + 10000 := ⟨_, rfl⟩
                    rw [← hA] at F1 F2 b1 m1 m2
                    rw [← hC] at F3 F4 b2 m3 m4
                    rw [← hA, ← hC]
                    clear hA hC
                    have g0 : ∀ W : Aft wy, W.val.cell? ⟨tr, or' + j * 2, none⟩ = some (.int .i64 (r j).lo) := fun W => (W.below.cell (p := ⟨tr, or' + j * 2, none⟩) l1').trans yr0
                    have g1 : ∀ W : Aft wy, W.val.cell? ⟨tr, or' + j * 2 + 1, none⟩ = some (.int .i64 (r j).hi) := fun W => (W.below.cell (p := ⟨tr, or' + j * 2 + 1, none⟩) l1').trans yr1
                    have g2 : ∀ W : Aft wy, W.val.cell? ⟨gv, 0, none⟩ = some (.int .i64 v.lo) := fun W => ((K9_7.out.below yb).below W.below).cell 0 rfl
                    have g3 : ∀ W : Aft wy, W.val.cell? ⟨gv, 1, none⟩ = some (.int .i64 v.hi) := fun W => ((K9_7.out.below yb).below W.below).cell 1 rfl
                    have V1 : IntKind.i64.wrap (A * v.hi) = A * v.hi := IntWalk.i64_in _ (by omega)
                    have V2 : IntKind.i64.wrap (10000 * (r j).lo) = 10000 * (r j).lo := IntWalk.i64_in _ (by omega)
                    have V3 : IntKind.i64.wrap (A + 1) = A + 1 := IntWalk.i64_in _ (by omega)
                    have V4 : IntKind.i64.wrap ((A + 1) * v.hi) = (A + 1) * v.hi := IntWalk.i64_in _ (by omega)
                    have V5 : IntKind.i64.wrap (C * v.lo) = C * v.lo := IntWalk.i64_in _ (by omega)
                    have V6 : IntKind.i64.wrap (10000 * (r j).hi) = 10000 * (r j).hi := IntWalk.i64_in _ (by omega)
                    have V7 : IntKind.i64.wrap (C - 1) = C - 1 := IntWalk.i64_in _ (by omega)
                    have V8 : IntKind.i64.wrap ((C - 1) * v.lo) = (C - 1) * v.lo := IntWalk.i64_in _ (by omega)
                    have z1 : decide (10000 * (r j).lo < A * v.hi) = false := by simp; omega
                    have z2 : decide ((A + 1) * v.hi ≤ 10000 * (r j).lo) = false := by simp; omega
                    have z3 : decide (C * v.lo < 10000 * (r j).hi) = false := by simp; omega
                    have z4 : decide (10000 * (r j).hi ≤ (C - 1) * v.lo) = false := by simp; omega
                    clear F1 F2 F3 F4 b1 b2 m1 m2 m3 m4 yr0 yr1 ro0 ro1 ro2
                    go_wp2_with fail
                    refine wp_region_aft (by kernel_rfl) (by kernel_rfl) ?_
                    repeat (go_big_quiet_step (fail))
                    refine wpQuiet_nil ?_
                    intro WA
                    obtain ⟨wy, hwy⟩ : ∃ X, X = WA.val := ⟨_, rfl⟩
                    have hby := WA.below
                    rw [← hwy] at hby ⊢
                    clear hwy WA
                    clear g0 g1 g2 g3 V1 V2 V3 V4 V5 V6 V7 V8
                    go_wp2_with fail
                    go_roundw
                    case rel => exact ⟨j + 1, by omega, by go_num, yb.trans (hby.mono yb.size)⟩
                    case measure => simp [intOf]; omega
                  · have hd1 : decide (j < m) = false := by simpa using hlt
                    have hlz := L_9.out.low.trans (hb.mono L_9.out.low.size)
                    go_wp2_with fail
                    refine (awake_any _).mono ?_
                    rintro e wz ⟨rfl, hbz⟩
                    go_wp2
                    go_ret
                    exact ⟨rfl, hlz.trans (hbz.mono hlz.size)⟩
      have hlt : ¬ k < b.n := by omega
      have hw : b.weighs = true := by
        cases hw : b.weighs
        · have := HKW.out hw; omega
        · rfl
      have HW := Lib.hid hw
      have hd0 : decide (k < b.n) = false := by simpa using hlt
      clear hw hgo hlt
      obtain ⟨b0, b1, b2, b3, b4, b5, b6, b7⟩ := BB.cells (b := b) L_5.out.B
      obtain ⟨c0, c1, c2, c3, c4, c5, c6⟩ := CB.cells (x := x) L_5.out.X
      go_wp2_with fail
      clear b0 b1 b2 b3 b4 b5 b6 b7 c0 c1 c2 c3 c4 c5 c6
      go_loopw [13, 14, 15] (fun v13 v14 v15 wr => ∃ k : Nat, k ≤ K ∧ v15 = .int .i64 k ∧ v13 = .int .i64 (lowK b x fz k) ∧ v14 = .int .i64 (highK b x fz k) ∧ (0 < k → b.weighs = true → b.heavy x ≤ 10000000) ∧ Below W6.heap.size W6 wr) (fun _ _ i _ => K - (intOf i).toNat)
      case atStart => exact ⟨0, Nat.zero_le _, rfl, by simp [lowK, leastR], by simp [highK, mostR], fun h9 => absurd h9 (by omega), Below.refl _ _⟩
      case round =>
        obtain ⟨k, hk, rfl, rfl, rfl, hheavy, hb⟩ := hrel
        by_cases hlt : k < K
        · as_aux_lemma =>
          skip
          have hd1 : decide (k < K) = true := by simpa using hlt
          have hk0 : (0 : Int) ≤ (k : Int) := by omega
          have hk1 : (k : Int) < (K : Int) := by omega
          obtain ⟨ib, io, rfl, il, ic⟩ := (HIA_0.out.mono hb) k hlt
          have HH := Lib.hid hheavy
          have RL := Lib.hid (L_5.out.below hb)
          clear hheavy
          go_upto_region 18 with fail
          apply stash2 (fun gb gc wz => Box gb #[.bool b.weighs, .slice oa b.n cap, .int .i64 b.off, .int .i64 b.buoy.lo, .int .i64 b.buoy.hi, .int .i64 b.air.lo, .int .i64 b.air.hi] 26 wz ∧ Box gc #[.bool b.weighs, .slice oa b.n cap, .int .i64 b.off, .int .i64 b.buoy.lo, .int .i64 b.buoy.hi, .int .i64 b.air.lo, .int .i64 b.air.hi] 26 wz ∧ Below wr.heap.size wr wz ∧ wr.heap.size ≤ gb ∧ wr.heap.size ≤ gc ∧ gb ≠ gc)
          intro hrest
          have hCC : ∀ A B : World, Below wr.heap.size wr A → Below A.heap.size A B → Below wr.heap.size wr B := fun A B h1 h2 => h1.trans (h2.mono h1.size)
          have hC0 : Below wr.heap.size wr wr.drew := (Below.refl _ _).drew
          refine wp_region_garb (Below wr.heap.size wr) (by kernel_rfl) ?_
          (refine wpAnyG_take (i := 0) hCC hC0 rfl (by kernel_rfl) (by kernel_rfl) (by kernel_rfl) (fun _ _ _ _ h => h) (by rfl) ?_; apply Exists.intro; refine ⟨fun w1 h1 K hK => ?_, ?_⟩; · (have f := fun W9 : Aft w1 => RL.out.B.below (hCC _ _ h1 W9.below); have f0 : ∀ W : Aft w1, W.val.cell? ⟨w.heap.size, 0, none⟩ = some (.bool b.weighs) := fun W => (f W).cell 0 rfl; have f1 : ∀ W : Aft w1, W.val.cell? ⟨w.heap.size, 1, none⟩ = some (.slice oa b.n cap) := fun W => (f W).cell 1 rfl; have f2 : ∀ W : Aft w1, W.val.cell? ⟨w.heap.size, 2, none⟩ = some (.int .i64 b.off) := fun W => (f W).cell 2 rfl; have f3 : ∀ W : Aft w1, W.val.cell? ⟨w.heap.size, 3, none⟩ = some (.int .i64 b.buoy.lo) := fun W => (f W).cell 3 rfl; have f4 : ∀ W : Aft w1, W.val.cell? ⟨w.heap.size, 4, none⟩ = some (.int .i64 b.buoy.hi) := fun W => (f W).cell 4 rfl; have f5 : ∀ W : Aft w1, W.val.cell? ⟨w.heap.size, 5, none⟩ = some (.int .i64 b.air.lo) := fun W => (f W).cell 5 rfl; have f6 : ∀ W : Aft w1, W.val.cell? ⟨w.heap.size, 6, none⟩ = some (.int .i64 b.air.hi) := fun W => (f W).cell 6 rfl; go_big_quiet_op; first | exact hK | fail))
          (refine wpAnyG_take (i := 1) hCC hC0 rfl (by kernel_rfl) (by kernel_rfl) (by kernel_rfl) (fun _ _ _ _ h => h) (by rfl) ?_; apply Exists.intro; refine ⟨fun w1 h1 K hK => ?_, ?_⟩; · (have f := fun W9 : Aft w1 => RL.out.B.below (hCC _ _ h1 W9.below); have f0 : ∀ W : Aft w1, W.val.cell? ⟨w.heap.size, 0, none⟩ = some (.bool b.weighs) := fun W => (f W).cell 0 rfl; have f1 : ∀ W : Aft w1, W.val.cell? ⟨w.heap.size, 1, none⟩ = some (.slice oa b.n cap) := fun W => (f W).cell 1 rfl; have f2 : ∀ W : Aft w1, W.val.cell? ⟨w.heap.size, 2, none⟩ = some (.int .i64 b.off) := fun W => (f W).cell 2 rfl; have f3 : ∀ W : Aft w1, W.val.cell? ⟨w.heap.size, 3, none⟩ = some (.int .i64 b.buoy.lo) := fun W => (f W).cell 3 rfl; have f4 : ∀ W : Aft w1, W.val.cell? ⟨w.heap.size, 4, none⟩ = some (.int .i64 b.buoy.hi) := fun W => (f W).cell 4 rfl; have f5 : ∀ W : Aft w1, W.val.cell? ⟨w.heap.size, 5, none⟩ = some (.int .i64 b.air.lo) := fun W => (f W).cell 5 rfl; have f6 : ∀ W : Aft w1, W.val.cell? ⟨w.heap.size, 6, none⟩ = some (.int .i64 b.air.hi) := fun W => (f W).cell 6 rfl; go_big_quiet_op; first | exact hK | fail))
          (refine wpAnyG_two (i := 2) (k := 3) (by kernel_rfl) rfl rfl (by rfl) (by rfl) (fun wa hwa K hK => ?_) (fun wa hwa K hK => ?_))
          · go_simp
            refine hK _ _ ((hCC _ _ hC0 hwa).alloc (by have := hC0.size; have := hwa.size; omega) _) ?_
            clear hK K
            have zb := Box.new (g := wa.heap.size) #[.bool false, .slice none 0 0, .int .i64 0, .int .i64 0, .int .i64 0, .int .i64 0, .int .i64 0] 26 wa rfl
            have hC9 := (hCC _ _ hC0 hwa).alloc (by have := hC0.size; have := hwa.size; omega) (.cells #[.bool false, .slice none 0 0, .int .i64 0, .int .i64 0, .int .i64 0, .int .i64 0, .int .i64 0] 26)
            have hgb : wr.heap.size ≤ wa.heap.size := Nat.le_trans hC0.size hwa.size
            clear hC0 hwa
            have hC0 := hC9
            clear hC9
            obtain ⟨gb, hG⟩ : ∃ G, G = wa.heap.size := ⟨_, rfl⟩
            obtain ⟨waA, hWA⟩ : ∃ X, X = wa.alloc (.cells #[.bool false, .slice none 0 0, .int .i64 0, .int .i64 0, .int .i64 0, .int .i64 0, .int .i64 0] 26) := ⟨_, rfl⟩
            rw [← hWA] at zb hC0  ⊢
            rw [← hG] at zb hgb  ⊢
            clear hG hWA
            (refine wpAnyG_one (i := 3) (by kernel_rfl) rfl (by rfl) (fun wb hwb K hK => ?_))
            go_simp
            refine hK _ _ ((hCC _ _ hC0 hwb).alloc (by have := hC0.size; have := hwb.size; omega) _) ?_
            clear hK K
            have zc := Box.new (g := wb.heap.size) #[.bool false, .slice none 0 0, .int .i64 0, .int .i64 0, .int .i64 0, .int .i64 0, .int .i64 0] 26 wb rfl
            have hC9 := (hCC _ _ hC0 hwb).alloc (by have := hC0.size; have := hwb.size; omega) (.cells #[.bool false, .slice none 0 0, .int .i64 0, .int .i64 0, .int .i64 0, .int .i64 0, .int .i64 0] 26)
            have hgc : wr.heap.size ≤ wb.heap.size := Nat.le_trans hC0.size hwb.size
            have yb := (zb.below hwb).old (.cells #[.bool false, .slice none 0 0, .int .i64 0, .int .i64 0, .int .i64 0, .int .i64 0, .int .i64 0] 26)
            have hne : gb < wb.heap.size := (zb.below hwb).lt
            clear zb
            have zb := yb
            clear yb
            clear hC0 hwb
            have hC0 := hC9
            clear hC9
            obtain ⟨gc, hG⟩ : ∃ G, G = wb.heap.size := ⟨_, rfl⟩
            obtain ⟨wbA, hWA⟩ : ∃ X, X = wb.alloc (.cells #[.bool false, .slice none 0 0, .int .i64 0, .int .i64 0, .int .i64 0, .int .i64 0, .int .i64 0] 26) := ⟨_, rfl⟩
            rw [← hWA] at zc hC0 zb ⊢
            rw [← hG] at zc hgc hne ⊢
            clear hG hWA
            (refine wpAnyG_one (i := 4) (by kernel_rfl) rfl (by rfl) (fun wc hwc K hK => ?_))
            refine wp_store_box (zb.below hwc) rfl rfl rfl rfl (by kernel_rfl) (by simp [Value.oneCell']) (fun wcS zs ho => ?_); dsimp only [Act.put]
            refine hK _ _ ((hCC _ _ hC0 hwc).trans (ho.below hgb)) ?_
            clear hK K
            have hC9 := (hCC _ _ hC0 hwc).trans (ho.below hgb)
            have yc := ho.box (zc.below hwc) (by omega)
            clear hC0 zb zc ho hwc
            have hC0 := hC9
            have zb := zs
            have zc := yc
            clear hC9 zs yc
            (refine wpAnyG_one (i := 5) (by kernel_rfl) rfl (by rfl) (fun wd hwd K hK => ?_))
            refine wp_store_box (zc.below hwd) rfl rfl rfl rfl (by kernel_rfl) (by simp [Value.oneCell']) (fun wdS zs ho => ?_); dsimp only [Act.put]
            refine hK _ _ ((hCC _ _ hC0 hwd).trans (ho.below hgc)) ?_
            clear hK K
            have hC9 := (hCC _ _ hC0 hwd).trans (ho.below hgc)
            have yb := ho.box (zb.below hwd) (by omega)
            clear hC0 zc zb ho hwd
            have hC0 := hC9
            have zc := zs
            have zb := yb
            clear hC9 zs yb
            refine wpAnyG_done (by kernel_rfl) (fun wz hwz => ?_) _
            have yb := zb.below hwz
            have yc := zc.below hwz
            have yw := hCC _ _ hC0 hwz
            exact hrest gb gc wz ⟨yb, yc, yw, hgb, hgc, by omega⟩
          · go_simp
            refine hK _ _ ((hCC _ _ hC0 hwa).alloc (by have := hC0.size; have := hwa.size; omega) _) ?_
            clear hK K
            have zc := Box.new (g := wa.heap.size) #[.bool false, .slice none 0 0, .int .i64 0, .int .i64 0, .int .i64 0, .int .i64 0, .int .i64 0] 26 wa rfl
            have hC9 := (hCC _ _ hC0 hwa).alloc (by have := hC0.size; have := hwa.size; omega) (.cells #[.bool false, .slice none 0 0, .int .i64 0, .int .i64 0, .int .i64 0, .int .i64 0, .int .i64 0] 26)
            have hgc : wr.heap.size ≤ wa.heap.size := Nat.le_trans hC0.size hwa.size
            clear hC0 hwa
            have hC0 := hC9
            clear hC9
            obtain ⟨gc, hG⟩ : ∃ G, G = wa.heap.size := ⟨_, rfl⟩
            obtain ⟨waA, hWA⟩ : ∃ X, X = wa.alloc (.cells #[.bool false, .slice none 0 0, .int .i64 0, .int .i64 0, .int .i64 0, .int .i64 0, .int .i64 0] 26) := ⟨_, rfl⟩
            rw [← hWA] at zc hC0  ⊢
            rw [← hG] at zc hgc  ⊢
            clear hG hWA
            (refine wpAnyG_one (i := 2) (by kernel_rfl) rfl (by rfl) (fun wb hwb K hK => ?_))
            go_simp
            refine hK _ _ ((hCC _ _ hC0 hwb).alloc (by have := hC0.size; have := hwb.size; omega) _) ?_
            clear hK K
            have zb := Box.new (g := wb.heap.size) #[.bool false, .slice none 0 0, .int .i64 0, .int .i64 0, .int .i64 0, .int .i64 0, .int .i64 0] 26 wb rfl
            have hC9 := (hCC _ _ hC0 hwb).alloc (by have := hC0.size; have := hwb.size; omega) (.cells #[.bool false, .slice none 0 0, .int .i64 0, .int .i64 0, .int .i64 0, .int .i64 0, .int .i64 0] 26)
            have hgb : wr.heap.size ≤ wb.heap.size := Nat.le_trans hC0.size hwb.size
            have yc := (zc.below hwb).old (.cells #[.bool false, .slice none 0 0, .int .i64 0, .int .i64 0, .int .i64 0, .int .i64 0, .int .i64 0] 26)
            have hne : gc < wb.heap.size := (zc.below hwb).lt
            clear zc
            have zc := yc
            clear yc
            clear hC0 hwb
            have hC0 := hC9
            clear hC9
            obtain ⟨gb, hG⟩ : ∃ G, G = wb.heap.size := ⟨_, rfl⟩
            obtain ⟨wbA, hWA⟩ : ∃ X, X = wb.alloc (.cells #[.bool false, .slice none 0 0, .int .i64 0, .int .i64 0, .int .i64 0, .int .i64 0, .int .i64 0] 26) := ⟨_, rfl⟩
            rw [← hWA] at zb hC0 zc ⊢
            rw [← hG] at zb hgb hne ⊢
            clear hG hWA
            (refine wpAnyG_one (i := 4) (by kernel_rfl) rfl (by rfl) (fun wc hwc K hK => ?_))
            refine wp_store_box (zb.below hwc) rfl rfl rfl rfl (by kernel_rfl) (by simp [Value.oneCell']) (fun wcS zs ho => ?_); dsimp only [Act.put]
            refine hK _ _ ((hCC _ _ hC0 hwc).trans (ho.below hgb)) ?_
            clear hK K
            have hC9 := (hCC _ _ hC0 hwc).trans (ho.below hgb)
            have yc := ho.box (zc.below hwc) (by omega)
            clear hC0 zb zc ho hwc
            have hC0 := hC9
            have zb := zs
            have zc := yc
            clear hC9 zs yc
            (refine wpAnyG_one (i := 5) (by kernel_rfl) rfl (by rfl) (fun wd hwd K hK => ?_))
            refine wp_store_box (zc.below hwd) rfl rfl rfl rfl (by kernel_rfl) (by simp [Value.oneCell']) (fun wdS zs ho => ?_); dsimp only [Act.put]
            refine hK _ _ ((hCC _ _ hC0 hwd).trans (ho.below hgc)) ?_
            clear hK K
            have hC9 := (hCC _ _ hC0 hwd).trans (ho.below hgc)
            have yb := ho.box (zb.below hwd) (by omega)
            clear hC0 zc zb ho hwd
            have hC0 := hC9
            have zc := zs
            have zb := yb
            clear hC9 zs yb
            refine wpAnyG_done (by kernel_rfl) (fun wz hwz => ?_) _
            have yb := zb.below hwz
            have yc := zc.below hwz
            have yw := hCC _ _ hC0 hwz
            exact hrest gb gc wz ⟨yb, yc, yw, hgb, hgc, by omega⟩
          rintro gb gc w7 ⟨zb, zc, zw, hgb, hgc, zn⟩
          go_wp2_with fail
          have hCC : ∀ A B : World, Below wr.heap.size wr A → Below A.heap.size A B → Below wr.heap.size wr B := fun A B h1 h2 => h1.trans (h2.mono h1.size)
          have hC0 : Below wr.heap.size wr w7.drew := zw.drew
          refine wp_region_garb (Below wr.heap.size wr) (by kernel_rfl) ?_
          clear zw
          have yb := zb.drew
          have yc := zc.drew
          clear zb zc
          have zb := yb
          have zc := yc
          clear yb yc
          (refine wpAnyG_take (i := 0) hCC hC0 rfl (by kernel_rfl) (by kernel_rfl) (by kernel_rfl) (fun _ _ _ _ h => h) (by rfl) ?_; apply Exists.intro; refine ⟨fun w1 h1 K hK => ?_, ?_⟩; · ( go_big_quiet_op; first | exact hK | fail))
          (refine wpAnyG_take (i := 1) hCC hC0 rfl (by kernel_rfl) (by kernel_rfl) (by kernel_rfl) (fun _ _ _ _ h => h) (by rfl) ?_; apply Exists.intro; refine ⟨fun w1 h1 K hK => ?_, ?_⟩; · ( go_big_quiet_op; first | exact hK | fail))
          (refine wpAnyG_take (i := 2) hCC hC0 rfl (by kernel_rfl) (by kernel_rfl) (by kernel_rfl) (fun _ _ _ _ h => h) (by rfl) ?_; apply Exists.intro; refine ⟨fun w1 h1 K hK => ?_, ?_⟩; · (have f := fun W9 : Aft w1 => RL.out.B.below (hCC _ _ h1 W9.below); have f5 : ∀ W : Aft w1, W.val.cell? ⟨w.heap.size, 5, none⟩ = some (.int .i64 b.air.lo) := fun W => (f W).cell 5 rfl; have f6 : ∀ W : Aft w1, W.val.cell? ⟨w.heap.size, 6, none⟩ = some (.int .i64 b.air.hi) := fun W => (f W).cell 6 rfl; go_big_quiet_op; first | exact hK | fail))
          (refine wpAnyG_take (i := 3) hCC hC0 rfl (by kernel_rfl) (by kernel_rfl) (by kernel_rfl) (fun _ _ _ _ h => h) (by rfl) ?_; apply Exists.intro; refine ⟨fun w1 h1 K hK => ?_, ?_⟩; · ( go_big_quiet_op; first | exact hK | fail))
          (refine wpAnyG_take (i := 4) hCC hC0 rfl (by kernel_rfl) (by kernel_rfl) (by kernel_rfl) (fun _ _ _ _ h => h) (by rfl) ?_; apply Exists.intro; refine ⟨fun w1 h1 K hK => ?_, ?_⟩; · ( go_big_quiet_op; first | exact hK | fail))
          (refine wpAnyG_take (i := 5) hCC hC0 rfl (by kernel_rfl) (by kernel_rfl) (by kernel_rfl) (fun _ _ _ _ h => h) (by rfl) ?_; apply Exists.intro; refine ⟨fun w1 h1 K hK => ?_, ?_⟩; · (have f := fun W9 : Aft w1 => RL.out.B.below (hCC _ _ h1 W9.below); have f5 : ∀ W : Aft w1, W.val.cell? ⟨w.heap.size, 5, none⟩ = some (.int .i64 b.air.lo) := fun W => (f W).cell 5 rfl; have f6 : ∀ W : Aft w1, W.val.cell? ⟨w.heap.size, 6, none⟩ = some (.int .i64 b.air.hi) := fun W => (f W).cell 6 rfl; go_big_quiet_op; first | exact hK | fail))
          (refine wpAnyG_take (i := 6) hCC hC0 rfl (by kernel_rfl) (by kernel_rfl) (by kernel_rfl) (fun _ _ _ _ h => h) (by rfl) ?_; apply Exists.intro; refine ⟨fun w1 h1 K hK => ?_, ?_⟩; · ( go_big_quiet_op; first | exact hK | exact ⟨_, fun W => aft_call (span_any _ _ _), hK⟩))
          (refine wpAnyG_take (i := 7) hCC hC0 rfl (by kernel_rfl) (by kernel_rfl) (by kernel_rfl) (fun _ _ _ _ h => h) (by rfl) ?_; apply Exists.intro; refine ⟨fun w1 h1 K hK => ?_, ?_⟩; · ( go_big_quiet_op; first | exact hK | fail))
          (refine wpAnyG_take (i := 8) hCC hC0 rfl (by kernel_rfl) (by kernel_rfl) (by kernel_rfl) (fun _ _ _ _ h => h) (by rfl) ?_; apply Exists.intro; refine ⟨fun w1 h1 K hK => ?_, ?_⟩; · ( go_big_quiet_op; first | exact hK | fail))
          (refine wpAnyG_take (i := 9) hCC hC0 rfl (by kernel_rfl) (by kernel_rfl) (by kernel_rfl) (fun _ _ _ _ h => h) (by rfl) ?_; apply Exists.intro; refine ⟨fun w1 h1 K hK => ?_, ?_⟩; · (have f := fun W9 : Aft w1 => RL.out.B.below (hCC _ _ h1 W9.below); have f5 : ∀ W : Aft w1, W.val.cell? ⟨w.heap.size, 5, none⟩ = some (.int .i64 b.air.lo) := fun W => (f W).cell 5 rfl; have f6 : ∀ W : Aft w1, W.val.cell? ⟨w.heap.size, 6, none⟩ = some (.int .i64 b.air.hi) := fun W => (f W).cell 6 rfl; go_big_quiet_op; first | exact hK | fail))
          (refine wpAnyG_take (i := 10) hCC hC0 rfl (by kernel_rfl) (by kernel_rfl) (by kernel_rfl) (fun _ _ _ _ h => h) (by rfl) ?_; apply Exists.intro; refine ⟨fun w1 h1 K hK => ?_, ?_⟩; · ( go_big_quiet_op; first | exact hK | fail))
          (refine wpAnyG_take (i := 11) hCC hC0 rfl (by kernel_rfl) (by kernel_rfl) (by kernel_rfl) (fun _ _ _ _ h => h) (by rfl) ?_; apply Exists.intro; refine ⟨fun w1 h1 K hK => ?_, ?_⟩; · ( go_big_quiet_op; first | exact hK | fail))
          (refine wpAnyG_take (i := 12) hCC hC0 rfl (by kernel_rfl) (by kernel_rfl) (by kernel_rfl) (fun _ _ _ _ h => h) (by rfl) ?_; apply Exists.intro; refine ⟨fun w1 h1 K hK => ?_, ?_⟩; · (have f := fun W9 : Aft w1 => RL.out.B.below (hCC _ _ h1 W9.below); have f5 : ∀ W : Aft w1, W.val.cell? ⟨w.heap.size, 5, none⟩ = some (.int .i64 b.air.lo) := fun W => (f W).cell 5 rfl; have f6 : ∀ W : Aft w1, W.val.cell? ⟨w.heap.size, 6, none⟩ = some (.int .i64 b.air.hi) := fun W => (f W).cell 6 rfl; go_big_quiet_op; first | exact hK | fail))
          (refine wpAnyG_take (i := 13) hCC hC0 rfl (by kernel_rfl) (by kernel_rfl) (by kernel_rfl) (fun _ _ _ _ h => h) (by rfl) ?_; apply Exists.intro; refine ⟨fun w1 h1 K hK => ?_, ?_⟩; · ( go_big_quiet_op; first | exact hK | exact ⟨_, fun W => aft_call (span_any _ _ _), hK⟩))
          (refine wpAnyG_take (i := 14) hCC hC0 rfl (by kernel_rfl) (by kernel_rfl) (by kernel_rfl) (fun _ _ _ _ h => h) (by rfl) ?_; apply Exists.intro; refine ⟨fun w1 h1 K hK => ?_, ?_⟩; · ( go_big_quiet_op; first | exact hK | fail))
          (refine wpAnyG_one (i := 15) (by kernel_rfl) rfl (by rfl) (fun wa hwa K hK => ?_))
          refine wp_store_int (zb.below hwa) rfl rfl rfl (by simp) (by kernel_rfl) (fun w8s zs ho => ?_); dsimp only [Act.put]
          refine hK _ _ ((hCC _ _ hC0 hwa).trans (ho.below hgb)) ?_
          clear hK K
          have hC9 := (hCC _ _ hC0 hwa).trans (ho.below hgb)
          have zt : Box gb #[.bool b.weighs, .slice oa b.n cap, .int .i64 0, .int .i64 b.buoy.lo, .int .i64 b.buoy.hi, .int .i64 b.air.lo, .int .i64 b.air.hi] 26 w8s := zs
          have yc := ho.box (zc.below hwa) (zn.symm)
          clear hC0 zs zb ho hwa zc
          have hC0 := hC9
          have zb := zt
          have zc := yc
          clear hC9 zt yc
          (refine wpAnyG_take (i := 16) hCC hC0 rfl (by kernel_rfl) (by kernel_rfl) (by kernel_rfl) (fun _ _ _ _ h => h) (by rfl) ?_; apply Exists.intro; refine ⟨fun w1 h1 K hK => ?_, ?_⟩; · ( go_big_quiet_op; first | exact hK | fail))
          (refine wpAnyG_one (i := 17) (by kernel_rfl) rfl (by rfl) (fun wa hwa K hK => ?_))
          refine wp_store_int (zc.below hwa) rfl rfl rfl (by simp) (by kernel_rfl) (fun w9s zs ho => ?_); dsimp only [Act.put]
          refine hK _ _ ((hCC _ _ hC0 hwa).trans (ho.below hgc)) ?_
          clear hK K
          have hC9 := (hCC _ _ hC0 hwa).trans (ho.below hgc)
          have zt : Box gc #[.bool b.weighs, .slice oa b.n cap, .int .i64 0, .int .i64 b.buoy.lo, .int .i64 b.buoy.hi, .int .i64 b.air.lo, .int .i64 b.air.hi] 26 w9s := zs
          have yb := ho.box (zb.below hwa) (zn)
          clear hC0 zs zc ho hwa zb
          have hC0 := hC9
          have zc := zt
          have zb := yb
          clear hC9 zt yb
          (refine wpAnyG_take (i := 18) hCC hC0 rfl (by kernel_rfl) (by kernel_rfl) (by kernel_rfl) (fun _ _ _ _ h => h) (by rfl) ?_; apply Exists.intro; refine ⟨fun w1 h1 K hK => ?_, ?_⟩; · ( go_big_quiet_op; first | exact hK | fail))
          (refine wpAnyG_one (i := 19) (by kernel_rfl) rfl (by rfl) (fun wa hwa K hK => ?_))
          refine wp_store_at (zb.below hwa) rfl rfl rfl (by simp) (by kernel_rfl) (by simp [Value.oneCell']) (fun w10s zs ho => ?_); dsimp only [Act.put]
          refine hK _ _ ((hCC _ _ hC0 hwa).trans (ho.below hgb)) ?_
          clear hK K
          have hC9 := (hCC _ _ hC0 hwa).trans (ho.below hgb)
          have zt : Box gb #[.bool b.weighs, .slice oa b.n cap, .int .i64 0, .int .i64 b.buoy.lo, .int .i64 b.buoy.hi, .int .i64 b.air.lo, .int .i64 b.air.lo] 26 w10s := zs
          have yc := ho.box (zc.below hwa) (zn.symm)
          clear hC0 zs zb ho hwa zc
          have hC0 := hC9
          have zb := zt
          have zc := yc
          clear hC9 zt yc
          (refine wpAnyG_take (i := 20) hCC hC0 rfl (by kernel_rfl) (by kernel_rfl) (by kernel_rfl) (fun _ _ _ _ h => h) (by rfl) ?_; apply Exists.intro; refine ⟨fun w1 h1 K hK => ?_, ?_⟩; · ( go_big_quiet_op; first | exact hK | fail))
          (refine wpAnyG_one (i := 21) (by kernel_rfl) rfl (by rfl) (fun wa hwa K hK => ?_))
          refine wp_store_at (zc.below hwa) rfl rfl rfl (by simp) (by kernel_rfl) (by simp [Value.oneCell']) (fun w11s zs ho => ?_); dsimp only [Act.put]
          refine hK _ _ ((hCC _ _ hC0 hwa).trans (ho.below hgc)) ?_
          clear hK K
          have hC9 := (hCC _ _ hC0 hwa).trans (ho.below hgc)
          have zt : Box gc #[.bool b.weighs, .slice oa b.n cap, .int .i64 0, .int .i64 b.buoy.lo, .int .i64 b.buoy.hi, .int .i64 b.air.hi, .int .i64 b.air.hi] 26 w11s := zs
          have yb := ho.box (zb.below hwa) (zn)
          clear hC0 zs zc ho hwa zb
          have hC0 := hC9
          have zc := zt
          have zb := yb
          clear hC9 zt yb
          refine wpAnyG_done (by kernel_rfl) (fun w89 hw89 => ?_) _
          have yb := zb.below hw89
          have yc := zc.below hw89
          have zw := hCC _ _ hC0 hw89
          clear hC0 hCC hw89 zb zc
          have zb := yb
          have zc := yc
          clear yb yc
          obtain ⟨w8, hW⟩ : ∃ X, X = w89 := ⟨_, rfl⟩
          rw [← hW] at zw zb zc ⊢
          clear hW
          go_wp2_with fail
          have hCC : ∀ A B : World, Below wr.heap.size wr A → Below A.heap.size A B → Below wr.heap.size wr B := fun A B h1 h2 => h1.trans (h2.mono h1.size)
          have hC0 : Below wr.heap.size wr w8.drew := zw.drew
          refine wp_region_garb (Below wr.heap.size wr) (by kernel_rfl) ?_
          clear zw
          have yb := zb.drew
          have yc := zc.drew
          clear zb zc
          have zb := yb
          have zc := yc
          clear yb yc
          (refine wpAnyG_take (i := 0) hCC hC0 rfl (by kernel_rfl) (by kernel_rfl) (by kernel_rfl) (fun _ _ _ _ h => h) (by rfl) ?_; apply Exists.intro; refine ⟨fun w1 h1 K hK => ?_, ?_⟩; · ( go_big_quiet_op; first | exact hK | fail))
          (refine wpAnyG_take (i := 1) hCC hC0 rfl (by kernel_rfl) (by kernel_rfl) (by kernel_rfl) (fun _ _ _ _ h => h) (by rfl) ?_; apply Exists.intro; refine ⟨fun w1 h1 K hK => ?_, ?_⟩; · ( go_big_quiet_op; first | exact hK | fail))
          (refine wpAnyG_take (i := 2) hCC hC0 rfl (by kernel_rfl) (by kernel_rfl) (by kernel_rfl) (fun _ _ _ _ h => h) (by rfl) ?_; apply Exists.intro; refine ⟨fun w1 h1 K hK => ?_, ?_⟩; · (have f := fun W9 : Aft w1 => RL.out.B.below (hCC _ _ h1 W9.below); have f3 : ∀ W : Aft w1, W.val.cell? ⟨w.heap.size, 3, none⟩ = some (.int .i64 b.buoy.lo) := fun W => (f W).cell 3 rfl; have f4 : ∀ W : Aft w1, W.val.cell? ⟨w.heap.size, 4, none⟩ = some (.int .i64 b.buoy.hi) := fun W => (f W).cell 4 rfl; go_big_quiet_op; first | exact hK | fail))
          (refine wpAnyG_take (i := 3) hCC hC0 rfl (by kernel_rfl) (by kernel_rfl) (by kernel_rfl) (fun _ _ _ _ h => h) (by rfl) ?_; apply Exists.intro; refine ⟨fun w1 h1 K hK => ?_, ?_⟩; · ( go_big_quiet_op; first | exact hK | fail))
          (refine wpAnyG_take (i := 4) hCC hC0 rfl (by kernel_rfl) (by kernel_rfl) (by kernel_rfl) (fun _ _ _ _ h => h) (by rfl) ?_; apply Exists.intro; refine ⟨fun w1 h1 K hK => ?_, ?_⟩; · ( go_big_quiet_op; first | exact hK | fail))
          (refine wpAnyG_take (i := 5) hCC hC0 rfl (by kernel_rfl) (by kernel_rfl) (by kernel_rfl) (fun _ _ _ _ h => h) (by rfl) ?_; apply Exists.intro; refine ⟨fun w1 h1 K hK => ?_, ?_⟩; · (have f := fun W9 : Aft w1 => RL.out.B.below (hCC _ _ h1 W9.below); have f3 : ∀ W : Aft w1, W.val.cell? ⟨w.heap.size, 3, none⟩ = some (.int .i64 b.buoy.lo) := fun W => (f W).cell 3 rfl; have f4 : ∀ W : Aft w1, W.val.cell? ⟨w.heap.size, 4, none⟩ = some (.int .i64 b.buoy.hi) := fun W => (f W).cell 4 rfl; go_big_quiet_op; first | exact hK | fail))
          (refine wpAnyG_take (i := 6) hCC hC0 rfl (by kernel_rfl) (by kernel_rfl) (by kernel_rfl) (fun _ _ _ _ h => h) (by rfl) ?_; apply Exists.intro; refine ⟨fun w1 h1 K hK => ?_, ?_⟩; · ( go_big_quiet_op; first | exact hK | exact ⟨_, fun W => aft_call (span_any _ _ _), hK⟩))
          (refine wpAnyG_take (i := 7) hCC hC0 rfl (by kernel_rfl) (by kernel_rfl) (by kernel_rfl) (fun _ _ _ _ h => h) (by rfl) ?_; apply Exists.intro; refine ⟨fun w1 h1 K hK => ?_, ?_⟩; · ( go_big_quiet_op; first | exact hK | fail))
          (refine wpAnyG_take (i := 8) hCC hC0 rfl (by kernel_rfl) (by kernel_rfl) (by kernel_rfl) (fun _ _ _ _ h => h) (by rfl) ?_; apply Exists.intro; refine ⟨fun w1 h1 K hK => ?_, ?_⟩; · ( go_big_quiet_op; first | exact hK | fail))
          (refine wpAnyG_take (i := 9) hCC hC0 rfl (by kernel_rfl) (by kernel_rfl) (by kernel_rfl) (fun _ _ _ _ h => h) (by rfl) ?_; apply Exists.intro; refine ⟨fun w1 h1 K hK => ?_, ?_⟩; · (have f := fun W9 : Aft w1 => RL.out.B.below (hCC _ _ h1 W9.below); have f3 : ∀ W : Aft w1, W.val.cell? ⟨w.heap.size, 3, none⟩ = some (.int .i64 b.buoy.lo) := fun W => (f W).cell 3 rfl; have f4 : ∀ W : Aft w1, W.val.cell? ⟨w.heap.size, 4, none⟩ = some (.int .i64 b.buoy.hi) := fun W => (f W).cell 4 rfl; go_big_quiet_op; first | exact hK | fail))
          (refine wpAnyG_take (i := 10) hCC hC0 rfl (by kernel_rfl) (by kernel_rfl) (by kernel_rfl) (fun _ _ _ _ h => h) (by rfl) ?_; apply Exists.intro; refine ⟨fun w1 h1 K hK => ?_, ?_⟩; · ( go_big_quiet_op; first | exact hK | fail))
          (refine wpAnyG_take (i := 11) hCC hC0 rfl (by kernel_rfl) (by kernel_rfl) (by kernel_rfl) (fun _ _ _ _ h => h) (by rfl) ?_; apply Exists.intro; refine ⟨fun w1 h1 K hK => ?_, ?_⟩; · ( go_big_quiet_op; first | exact hK | fail))
          (refine wpAnyG_take (i := 12) hCC hC0 rfl (by kernel_rfl) (by kernel_rfl) (by kernel_rfl) (fun _ _ _ _ h => h) (by rfl) ?_; apply Exists.intro; refine ⟨fun w1 h1 K hK => ?_, ?_⟩; · (have f := fun W9 : Aft w1 => RL.out.B.below (hCC _ _ h1 W9.below); have f3 : ∀ W : Aft w1, W.val.cell? ⟨w.heap.size, 3, none⟩ = some (.int .i64 b.buoy.lo) := fun W => (f W).cell 3 rfl; have f4 : ∀ W : Aft w1, W.val.cell? ⟨w.heap.size, 4, none⟩ = some (.int .i64 b.buoy.hi) := fun W => (f W).cell 4 rfl; go_big_quiet_op; first | exact hK | fail))
          (refine wpAnyG_take (i := 13) hCC hC0 rfl (by kernel_rfl) (by kernel_rfl) (by kernel_rfl) (fun _ _ _ _ h => h) (by rfl) ?_; apply Exists.intro; refine ⟨fun w1 h1 K hK => ?_, ?_⟩; · ( go_big_quiet_op; first | exact hK | exact ⟨_, fun W => aft_call (span_any _ _ _), hK⟩))
          (refine wpAnyG_take (i := 14) hCC hC0 rfl (by kernel_rfl) (by kernel_rfl) (by kernel_rfl) (fun _ _ _ _ h => h) (by rfl) ?_; apply Exists.intro; refine ⟨fun w1 h1 K hK => ?_, ?_⟩; · ( go_big_quiet_op; first | exact hK | fail))
          (refine wpAnyG_one (i := 15) (by kernel_rfl) rfl (by rfl) (fun wa hwa K hK => ?_))
          refine wp_store_at (zb.below hwa) rfl rfl rfl (by simp) (by kernel_rfl) (by simp [Value.oneCell']) (fun w12s zs ho => ?_); dsimp only [Act.put]
          refine hK _ _ ((hCC _ _ hC0 hwa).trans (ho.below hgb)) ?_
          clear hK K
          have hC9 := (hCC _ _ hC0 hwa).trans (ho.below hgb)
          have zt : Box gb #[.bool b.weighs, .slice oa b.n cap, .int .i64 0, .int .i64 b.buoy.lo, .int .i64 b.buoy.lo, .int .i64 b.air.lo, .int .i64 b.air.lo] 26 w12s := zs
          have yc := ho.box (zc.below hwa) (zn.symm)
          clear hC0 zs zb ho hwa zc
          have hC0 := hC9
          have zb := zt
          have zc := yc
          clear hC9 zt yc
          (refine wpAnyG_take (i := 16) hCC hC0 rfl (by kernel_rfl) (by kernel_rfl) (by kernel_rfl) (fun _ _ _ _ h => h) (by rfl) ?_; apply Exists.intro; refine ⟨fun w1 h1 K hK => ?_, ?_⟩; · ( go_big_quiet_op; first | exact hK | fail))
          (refine wpAnyG_one (i := 17) (by kernel_rfl) rfl (by rfl) (fun wa hwa K hK => ?_))
          refine wp_store_at (zc.below hwa) rfl rfl rfl (by simp) (by kernel_rfl) (by simp [Value.oneCell']) (fun w13s zs ho => ?_); dsimp only [Act.put]
          refine hK _ _ ((hCC _ _ hC0 hwa).trans (ho.below hgc)) ?_
          clear hK K
          have hC9 := (hCC _ _ hC0 hwa).trans (ho.below hgc)
          have zt : Box gc #[.bool b.weighs, .slice oa b.n cap, .int .i64 0, .int .i64 b.buoy.hi, .int .i64 b.buoy.hi, .int .i64 b.air.hi, .int .i64 b.air.hi] 26 w13s := zs
          have yb := ho.box (zb.below hwa) (zn)
          clear hC0 zs zc ho hwa zb
          have hC0 := hC9
          have zc := zt
          have zb := yb
          clear hC9 zt yb
          refine wpAnyG_done (by kernel_rfl) (fun wp9 hwp9 => ?_) _
          have yb := zb.below hwp9
          have yc := zc.below hwp9
          have zw := hCC _ _ hC0 hwp9
          clear hC0 hCC hwp9 zb zc
          have zb := yb
          have zc := yc
          clear yb yc
          obtain ⟨wp, hW⟩ : ∃ X, X = wp9 := ⟨_, rfl⟩
          rw [← hW] at zw zb zc ⊢
          clear hW
          go_wp2_with fail
          have hCC : ∀ A B : World, Below wr.heap.size wr A → Below A.heap.size A B → Below wr.heap.size wr B := fun A B h1 h2 => h1.trans (h2.mono h1.size)
          have hC0 : Below wr.heap.size wr wp.drew := zw.drew
          refine wp_region_garb (Below wr.heap.size wr) (by kernel_rfl) ?_
          clear zw
          have yb := zb.drew
          have yc := zc.drew
          clear zb zc
          have zb := yb
          have zc := yc
          clear yb yc
          (refine wpAnyG_take (i := 0) hCC hC0 rfl (by kernel_rfl) (by kernel_rfl) (by kernel_rfl) (fun _ _ _ _ h => h) (by rfl) ?_; apply Exists.intro; refine ⟨fun w1 h1 K hK => ?_, ?_⟩; · ( go_big_quiet_op; first | exact hK | fail))
          (refine wpAnyG_take (i := 1) hCC hC0 rfl (by kernel_rfl) (by kernel_rfl) (by kernel_rfl) (fun _ _ _ _ h => h) (by rfl) ?_; apply Exists.intro; refine ⟨fun w1 h1 K hK => ?_, ?_⟩; · ( go_big_quiet_op; first | exact hK | fail))
          (refine wpAnyG_take (i := 2) hCC hC0 rfl (by kernel_rfl) (by kernel_rfl) (by kernel_rfl) (fun _ _ _ _ h => h) (by rfl) ?_; apply Exists.intro; refine ⟨fun w1 h1 K hK => ?_, ?_⟩; · (have f0 : ∀ W : Aft w1, W.val.cell? ⟨ib, io + k, none⟩ = some (.int .i64 (fz k)) := fun W => ((hCC _ _ h1 W.below).cell (p := ⟨ib, io + k, none⟩) il).trans ic; go_big_quiet_op; first | exact hK | fail))
          (refine wpAnyG_take (i := 3) hCC hC0 rfl (by kernel_rfl) (by kernel_rfl) (by kernel_rfl) (fun _ _ _ _ h => h) (by rfl) ?_; apply Exists.intro; refine ⟨fun w1 h1 K hK => ?_, ?_⟩; · (have f0 : ∀ W : Aft w1, W.val.cell? ⟨ib, io + k, none⟩ = some (.int .i64 (fz k)) := fun W => ((hCC _ _ h1 W.below).cell (p := ⟨ib, io + k, none⟩) il).trans ic; go_big_quiet_op; first | exact hK | fail))
          (refine wpAnyG_take (i := 4) hCC hC0 rfl (by kernel_rfl) (by kernel_rfl) (by kernel_rfl) (fun _ _ _ _ h => h) (by rfl) ?_; apply Exists.intro; refine ⟨fun w1 h1 K hK => ?_, ?_⟩; · ( go_big_quiet_op; first | exact hK | fail))
          (refine wpAnyG_take (i := 5) hCC hC0 rfl (by kernel_rfl) (by kernel_rfl) (by kernel_rfl) (fun _ _ _ _ h => h) (by rfl) ?_; apply Exists.intro; refine ⟨fun w1 h1 K hK => ?_, ?_⟩; · ( go_big_quiet_op; first | exact hK | fail))
          (refine wpAnyG_take (i := 6) hCC hC0 rfl (by kernel_rfl) (by kernel_rfl) (by kernel_rfl) (fun _ _ _ _ h => h) (by rfl) ?_; apply Exists.intro; refine ⟨fun w1 h1 K hK => ?_, ?_⟩; · (have f0 : ∀ W : Aft w1, W.val.cell? ⟨ib, io + k, none⟩ = some (.int .i64 (fz k)) := fun W => ((hCC _ _ h1 W.below).cell (p := ⟨ib, io + k, none⟩) il).trans ic; go_big_quiet_op; first | exact hK | fail))
          (refine wpAnyG_take (i := 7) hCC hC0 rfl (by kernel_rfl) (by kernel_rfl) (by kernel_rfl) (fun _ _ _ _ h => h) (by rfl) ?_; apply Exists.intro; refine ⟨fun w1 h1 K hK => ?_, ?_⟩; · (have f0 : ∀ W : Aft w1, W.val.cell? ⟨ib, io + k, none⟩ = some (.int .i64 (fz k)) := fun W => ((hCC _ _ h1 W.below).cell (p := ⟨ib, io + k, none⟩) il).trans ic; go_big_quiet_op; first | exact hK | fail))
          (refine wpAnyG_take (i := 8) hCC hC0 rfl (by kernel_rfl) (by kernel_rfl) (by kernel_rfl) (fun _ _ _ _ h => h) (by rfl) ?_; apply Exists.intro; refine ⟨fun w1 h1 K hK => ?_, ?_⟩; · ( go_big_quiet_op; first | exact hK | exact ⟨_, fun W => aft_call (span_any _ _ _), hK⟩))
          (refine wpAnyG_one (i := 9) (by kernel_rfl) rfl (by rfl) (fun wa hwa K hK => ?_))
          go_simp
          refine hK _ _ ((hCC _ _ hC0 hwa).alloc (by have := hC0.size; have := hwa.size; omega) _) ?_
          clear hK K
          have zs := Box.new (g := wa.heap.size) #[.int .i64 0, .int .i64 0] 24 wa rfl
          have hC9 := (hCC _ _ hC0 hwa).alloc (by have := hC0.size; have := hwa.size; omega) (.cells #[.int .i64 0, .int .i64 0] 24)
          have hga : wr.heap.size ≤ wa.heap.size := Nat.le_trans hC0.size hwa.size
          have yb := (zb.below hwa).old (.cells #[.int .i64 0, .int .i64 0] 24)
          have hnba : gb < wa.heap.size := (zb.below hwa).lt
          clear zb
          have yc := (zc.below hwa).old (.cells #[.int .i64 0, .int .i64 0] 24)
          have hnca : gc < wa.heap.size := (zc.below hwa).lt
          clear zc
          clear hwa hC0
          obtain ⟨ga, hG⟩ : ∃ G, G = wa.heap.size := ⟨_, rfl⟩
          obtain ⟨wA, hWA⟩ : ∃ X, X = wa.alloc (.cells #[.int .i64 0, .int .i64 0] 24) := ⟨_, rfl⟩
          rw [← hWA] at zs hC9 yb yc ⊢
          rw [← hG] at zs hga hnba hnca ⊢
          clear hG hWA
          have hC0 := hC9
          have za := zs
          have zb := yb
          have zc := yc
          clear hC9 zs yb yc
          (refine wpAnyG_one (i := 10) (by kernel_rfl) rfl (by rfl) (fun wa hwa K hK => ?_))
          refine wp_store_box (za.below hwa) rfl rfl rfl rfl (by kernel_rfl) (by simp [Value.oneCell']) (fun w14s zs ho => ?_); dsimp only [Act.put]
          refine hK _ _ ((hCC _ _ hC0 hwa).trans (ho.below hga)) ?_
          clear hK K
          have hC9 := (hCC _ _ hC0 hwa).trans (ho.below hga)
          have zt : Box ga #[.int .i64 (fz k), .int .i64 (fz k)] 24 w14s := zs
          have yb := ho.box (zb.below hwa) (by omega)
          have yc := ho.box (zc.below hwa) (by omega)
          clear hC0 zs za ho hwa zb zc
          have hC0 := hC9
          have za := zt
          have zb := yb
          have zc := yc
          clear hC9 zt yb yc
          refine wpAnyG_done (by kernel_rfl) (fun wq9 hwq9 => ?_) _
          have yb := zb.below hwq9
          have yc := zc.below hwq9
          have ya := za.below hwq9
          have zw := hCC _ _ hC0 hwq9
          clear hC0 hCC hwq9 zb zc za
          have zb := yb
          have zc := yc
          have za := ya
          clear yb yc ya
          obtain ⟨wq, hW⟩ : ∃ X, X = wq9 := ⟨_, rfl⟩
          rw [← hW] at zw zb zc za ⊢
          clear hW
          have bq := RL.out.B.below zw
          have b0 := bq.cell 0 (v := .bool b.weighs) rfl
          have b7 := bq.lt
          rw [HW.out] at b0
          clear bq
          go_wp2_with fail
          clear b0 b7
          have f2 : ∀ W : Aft wq, W.val.cell? ⟨w.heap.size, 2, none⟩ = some (.int .i64 b.off) := fun W => ((RL.out.B.below zw).below W.below).cell 2 rfl
          have e0 : ∀ W : Aft wq, W.val.cell? ⟨w.heap.size + 1, 0, none⟩ = some (.int .i64 x.beg.lo) := fun W => ((RL.out.X.below zw).below W.below).cell 0 rfl
          have e1 : ∀ W : Aft wq, W.val.cell? ⟨w.heap.size + 1, 1, none⟩ = some (.int .i64 x.beg.hi) := fun W => ((RL.out.X.below zw).below W.below).cell 1 rfl
          have e2 : ∀ W : Aft wq, W.val.cell? ⟨w.heap.size + 1, 2, none⟩ = some (.int .i64 x.fin.lo) := fun W => ((RL.out.X.below zw).below W.below).cell 2 rfl
          have e3 : ∀ W : Aft wq, W.val.cell? ⟨w.heap.size + 1, 3, none⟩ = some (.int .i64 x.fin.hi) := fun W => ((RL.out.X.below zw).below W.below).cell 3 rfl
          obtain ⟨hoff, hbeg, hfin, -, -, -⟩ := water_bounds HE.out
          have V0 : IntKind.i64.wrap (x.fin.lo - x.beg.hi) = x.fin.lo - x.beg.hi := IntWalk.i64_in _ (by omega)
          have V1 : IntKind.i64.wrap (2 * b.off) = 2 * b.off := IntWalk.i64_in _ (by omega)
          have V2 : IntKind.i64.wrap (x.fin.lo - x.beg.hi - 2 * b.off) = x.fin.lo - x.beg.hi - 2 * b.off := IntWalk.i64_in _ (by omega)
          have V3 : IntKind.i64.wrap (x.fin.hi - x.beg.lo) = x.fin.hi - x.beg.lo := IntWalk.i64_in _ (by omega)
          have V4 : IntKind.i64.wrap (x.fin.hi - x.beg.lo + 2 * b.off) = x.fin.hi - x.beg.lo + 2 * b.off := IntWalk.i64_in _ (by omega)
          refine wp_region_aft (by kernel_rfl) (by kernel_rfl) ?_
          repeat (go_big_quiet_step (fail))
          refine wpQuiet_nil ?_
          intro WA
          obtain ⟨wy, hwy⟩ : ∃ X, X = WA.val := ⟨_, rfl⟩
          have hby := WA.below
          rw [← hwy] at hby ⊢
          clear hwy WA
          clear f2 e0 e1 e2 e3 V0 V1 V2 V3 V4 hoff hbeg hfin
          obtain ⟨lt, hlt9⟩ : ∃ z, z = x.fin.lo - x.beg.hi - 2 * b.off := ⟨_, rfl⟩
          obtain ⟨hv, hhv9⟩ : ∃ z, z = x.fin.hi - x.beg.lo + 2 * b.off := ⟨_, rfl⟩
          rw [← hlt9, ← hhv9]
          have HLT := Lib.hid (show b.light x = lt from hlt9.symm)
          have HHV := Lib.hid (show b.heavy x = hv from hhv9.symm)
          clear hlt9 hhv9
          have LB := RL.out.low.trans ((zw.trans (hby.mono zw.size)).mono RL.out.low.size)
          have hbu := hb.trans ((zw.trans (hby.mono zw.size)).mono hb.size)
          have yb := zb.below hby
          have yc := zc.below hby
          have ya := za.below hby
          clear zb zc za zw hby
          have zb := yb
          have zc := yc
          have za := ya
          clear yb yc ya
          obtain ⟨wu, hW⟩ : ∃ X, X = wy := ⟨_, rfl⟩
          rw [← hW] at LB hbu zb zc za ⊢
          clear hW
          have hzk := HZ.out k hlt HW.out
          obtain ⟨A1, hA1⟩ : ∃ z, z = ((lowB b).waterR (scX lt (fz k))).1 := ⟨_, rfl⟩
          have HA := Lib.hid (fun (W' : World) (hb' : Below w.heap.size w W') => show Calls Try.prog 11 #[.agg #[.bool b.weighs, .slice oa b.n cap, .int .i64 0, .int .i64 b.buoy.lo, .int .i64 b.buoy.lo, .int .i64 b.air.lo, .int .i64 b.air.lo], .agg #[.int .i64 0, .int .i64 0, .int .i64 lt, .int .i64 lt, .int .i64 (fz k), .int .i64 (fz k)]] W' (fun e w' => e = .returned (.tuple #[A1.val, .int .i64 0]) ∧ Below W'.heap.size W' w') from by
            have h9 := Water_any (lowB b) (scX lt (fz k)) oa cap W' (show b.n ≤ 1000000 by omega) hcap (HT.out.mono hb')
            rw [(by rw [← HLT.out]; exact (scale_low HE.out HW.out hzk).1 : ((lowB b).waterR (scX lt (fz k))).2 = 0), ← hA1] at h9
            exact h9)
          have HA1 := Lib.hid hA1
          clear hA1 hzk
          go_wp2_with fail
          have hCC : ∀ A B : World, Below wu.heap.size wu A → Below A.heap.size A B → Below wu.heap.size wu B := fun A B h1 h2 => h1.trans (h2.mono h1.size)
          have hC0 : Below wu.heap.size wu wu.drew := (Below.refl _ _).drew
          refine wp_region_garb (Below wu.heap.size wu) (by kernel_rfl) ?_
          (refine wpAnyG_take (i := 0) hCC hC0 rfl (by kernel_rfl) (by kernel_rfl) (by kernel_rfl) (fun _ _ _ _ h => h) (by rfl) ?_; apply Exists.intro; refine ⟨fun w1 h1 K hK => ?_, ?_⟩; · (have f := fun W9 : Aft w1 => zb.below (hCC _ _ h1 W9.below); have f0 : ∀ W : Aft w1, W.val.cell? ⟨gb, 0, none⟩ = some (.bool b.weighs) := fun W => (f W).cell 0 rfl; have f1 : ∀ W : Aft w1, W.val.cell? ⟨gb, 1, none⟩ = some (.slice oa b.n cap) := fun W => (f W).cell 1 rfl; have f2 : ∀ W : Aft w1, W.val.cell? ⟨gb, 2, none⟩ = some (.int .i64 0) := fun W => (f W).cell 2 rfl; have f3 : ∀ W : Aft w1, W.val.cell? ⟨gb, 3, none⟩ = some (.int .i64 b.buoy.lo) := fun W => (f W).cell 3 rfl; have f4 : ∀ W : Aft w1, W.val.cell? ⟨gb, 4, none⟩ = some (.int .i64 b.buoy.lo) := fun W => (f W).cell 4 rfl; have f5 : ∀ W : Aft w1, W.val.cell? ⟨gb, 5, none⟩ = some (.int .i64 b.air.lo) := fun W => (f W).cell 5 rfl; have f6 : ∀ W : Aft w1, W.val.cell? ⟨gb, 6, none⟩ = some (.int .i64 b.air.lo) := fun W => (f W).cell 6 rfl; go_big_quiet_op; first | exact hK | fail))
          (refine wpAnyG_take (i := 1) hCC hC0 rfl (by kernel_rfl) (by kernel_rfl) (by kernel_rfl) (fun _ _ _ _ h => h) (by rfl) ?_; apply Exists.intro; refine ⟨fun w1 h1 K hK => ?_, ?_⟩; · ( go_big_quiet_op; first | exact hK | fail))
          (refine wpAnyG_take (i := 2) hCC hC0 rfl (by kernel_rfl) (by kernel_rfl) (by kernel_rfl) (fun _ _ _ _ h => h) (by rfl) ?_; apply Exists.intro; refine ⟨fun w1 h1 K hK => ?_, ?_⟩; · ( go_big_quiet_op; first | exact hK | fail))
          (refine wpAnyG_take (i := 3) hCC hC0 rfl (by kernel_rfl) (by kernel_rfl) (by kernel_rfl) (fun _ _ _ _ h => h) (by rfl) ?_; apply Exists.intro; refine ⟨fun w1 h1 K hK => ?_, ?_⟩; · ( go_big_quiet_op; first | exact hK | exact ⟨_, fun W => aft_call (span_any _ _ _), hK⟩))
          (refine wpAnyG_take (i := 4) hCC hC0 rfl (by kernel_rfl) (by kernel_rfl) (by kernel_rfl) (fun _ _ _ _ h => h) (by rfl) ?_; apply Exists.intro; refine ⟨fun w1 h1 K hK => ?_, ?_⟩; · (have f := fun W9 : Aft w1 => za.below (hCC _ _ h1 W9.below); have f0 : ∀ W : Aft w1, W.val.cell? ⟨ga, 0, none⟩ = some (.int .i64 (fz k)) := fun W => (f W).cell 0 rfl; have f1 : ∀ W : Aft w1, W.val.cell? ⟨ga, 1, none⟩ = some (.int .i64 (fz k)) := fun W => (f W).cell 1 rfl; go_big_quiet_op; first | exact hK | fail))
          (refine wpAnyG_take (i := 5) hCC hC0 rfl (by kernel_rfl) (by kernel_rfl) (by kernel_rfl) (fun _ _ _ _ h => h) (by rfl) ?_; apply Exists.intro; refine ⟨fun w1 h1 K hK => ?_, ?_⟩; · ( go_big_quiet_op; first | exact hK | fail))
          (refine wpAnyG_take (i := 6) hCC hC0 rfl (by kernel_rfl) (by kernel_rfl) (by kernel_rfl) (fun _ _ _ _ h => h) (by rfl) ?_; apply Exists.intro; refine ⟨fun w1 h1 K hK => ?_, ?_⟩; · ( go_big_quiet_op; first | exact hK | exact ⟨_, fun W => aft_call (HA.out _ (LB.trans ((hCC _ _ h1 W.below).mono LB.size))), hK⟩))
          (refine wpAnyG_take (i := 7) hCC hC0 rfl (by kernel_rfl) (by kernel_rfl) (by kernel_rfl) (fun _ _ _ _ h => h) (by rfl) ?_; apply Exists.intro; refine ⟨fun w1 h1 K hK => ?_, ?_⟩; · ( go_big_quiet_op; first | exact hK | fail))
          (refine wpAnyG_take (i := 8) hCC hC0 rfl (by kernel_rfl) (by kernel_rfl) (by kernel_rfl) (fun _ _ _ _ h => h) (by rfl) ?_; apply Exists.intro; refine ⟨fun w1 h1 K hK => ?_, ?_⟩; · ( go_big_quiet_op; first | exact hK | fail))
          (refine wpAnyG_take (i := 9) hCC hC0 rfl (by kernel_rfl) (by kernel_rfl) (by kernel_rfl) (fun _ _ _ _ h => h) (by rfl) ?_; apply Exists.intro; refine ⟨fun w1 h1 K hK => ?_, ?_⟩; · ( go_big_quiet_op; first | exact hK | fail))
          (refine wpAnyG_one (i := 10) (by kernel_rfl) rfl (by rfl) (fun wa hwa K hK => ?_)); go_simp; refine hK _ _ ((hCC _ _ hC0 hwa).alloc (by have := hC0.size; have := hwa.size; omega) _) ?_; clear hK K
          have s9 := Box.new (g := wa.heap.size) #[.int .i64 0, .int .i64 0] 24 wa rfl
          have hC1 := (hCC _ _ hC0 hwa).alloc (by have := hC0.size; have := hwa.size; omega) (.cells #[.int .i64 0, .int .i64 0] 24)
          have hg9 : wu.heap.size ≤ wa.heap.size := Nat.le_trans hC0.size hwa.size
          clear hwa
          obtain ⟨g9, hG⟩ : ∃ G, G = wa.heap.size := ⟨_, rfl⟩
          obtain ⟨wA, hWA⟩ : ∃ X, X = wa.alloc (.cells #[.int .i64 0, .int .i64 0] 24) := ⟨_, rfl⟩
          rw [← hG] at s9 hg9 ⊢
          rw [← hWA] at s9 hC1 ⊢
          clear hG hWA
          (refine wpAnyG_one (i := 11) (by kernel_rfl) rfl (by rfl) (fun wb hwb K hK => ?_)); refine wp_store_box (s9.below hwb) rfl rfl rfl rfl (by kernel_rfl) (by simp [Value.oneCell']) (fun wc s8 ho => ?_); dsimp only [Act.put]; refine hK _ _ ((hCC _ _ hC1 hwb).trans (ho.below hg9)) ?_; clear hK K
          have hC2 := (hCC _ _ hC1 hwb).trans (ho.below hg9)
          clear s9 hC1 ho hwb
          (refine wpAnyG_one (i := 12) (by kernel_rfl) rfl (by rfl) (fun wd hwd K hK => ?_)); go_simp; refine hK _ _ (hCC _ _ hC2 hwd) ?_; clear hK K
          refine wpAnyG_done (by kernel_rfl) (fun wz hwz => ?_) _
          have h9 := (s8.below hwd).below hwz
          have hz9 := hCC _ _ (hCC _ _ hC2 hwd) hwz
          clear s8 hC2 hwd hwz hC0 hCC
          have yL := LB.trans (hz9.mono LB.size)
          have yU := hbu.trans (hz9.mono hbu.size)
          have yc := zc.below hz9
          have ya := za.below hz9
          obtain ⟨gA, hG⟩ : ∃ z, z = g9 := ⟨_, rfl⟩
          obtain ⟨wv, hW⟩ : ∃ X, X = wz := ⟨_, rfl⟩
          rw [← hG, ← hW] at h9
          rw [← hW] at yL yU yc ya ⊢
          rw [← hG] at ⊢
          clear hG hW hz9 hg9 LB hbu zc za
          have zA := h9
          have LB := yL
          have hbu := yU
          have zc := yc
          have za := ya
          clear h9 yL yU yc ya
          clear zb HA
          by_cases hh : b.heavy x ≤ 10000000
          case neg =>
            have z9 : decide (10000000 < hv) = true := by have := HHV.out; simp; omega
            clear hh zc za zA
            go_wp2_with fail
            refine (awake_any _).mono ?_
            rintro e wz ⟨rfl, hbz⟩
            go_wp2
            go_ret
            exact ⟨rfl, LB.trans (hbz.mono LB.size)⟩
          have z9 : decide (10000000 < hv) = false := by have := HHV.out; simp; omega
          have HHH := Lib.hid hh
          clear hh
          go_wp2_with fail
          clear z9
          have hzk := HZ.out k hlt HW.out
          obtain ⟨C1, hC1⟩ : ∃ z, z = ((highB b).waterR (scX hv (fz k))).1 := ⟨_, rfl⟩
          have HA := Lib.hid (fun (W' : World) (hb' : Below w.heap.size w W') => show Calls Try.prog 11 #[.agg #[.bool b.weighs, .slice oa b.n cap, .int .i64 0, .int .i64 b.buoy.hi, .int .i64 b.buoy.hi, .int .i64 b.air.hi, .int .i64 b.air.hi], .agg #[.int .i64 0, .int .i64 0, .int .i64 hv, .int .i64 hv, .int .i64 (fz k), .int .i64 (fz k)]] W' (fun e w' => e = .returned (.tuple #[C1.val, .int .i64 0]) ∧ Below W'.heap.size W' w') from by
            have h9 := Water_any (highB b) (scX hv (fz k)) oa cap W' (show b.n ≤ 1000000 by omega) hcap (HT.out.mono hb')
            rw [(by rw [← HHV.out]; exact (scale_high HE.out HW.out hzk HHH.out).1 : ((highB b).waterR (scX hv (fz k))).2 = 0), ← hC1] at h9
            exact h9)
          have HC1 := Lib.hid hC1
          clear hC1 hzk
          have hCC : ∀ A B : World, Below wv.heap.size wv A → Below A.heap.size A B → Below wv.heap.size wv B := fun A B h1 h2 => h1.trans (h2.mono h1.size)
          have hC0 : Below wv.heap.size wv wv.drew := (Below.refl _ _).drew
          refine wp_region_garb (Below wv.heap.size wv) (by kernel_rfl) ?_
          (refine wpAnyG_take (i := 0) hCC hC0 rfl (by kernel_rfl) (by kernel_rfl) (by kernel_rfl) (fun _ _ _ _ h => h) (by rfl) ?_; apply Exists.intro; refine ⟨fun w1 h1 K hK => ?_, ?_⟩; · (have f := fun W9 : Aft w1 => zc.below (hCC _ _ h1 W9.below); have f0 : ∀ W : Aft w1, W.val.cell? ⟨gc, 0, none⟩ = some (.bool b.weighs) := fun W => (f W).cell 0 rfl; have f1 : ∀ W : Aft w1, W.val.cell? ⟨gc, 1, none⟩ = some (.slice oa b.n cap) := fun W => (f W).cell 1 rfl; have f2 : ∀ W : Aft w1, W.val.cell? ⟨gc, 2, none⟩ = some (.int .i64 0) := fun W => (f W).cell 2 rfl; have f3 : ∀ W : Aft w1, W.val.cell? ⟨gc, 3, none⟩ = some (.int .i64 b.buoy.hi) := fun W => (f W).cell 3 rfl; have f4 : ∀ W : Aft w1, W.val.cell? ⟨gc, 4, none⟩ = some (.int .i64 b.buoy.hi) := fun W => (f W).cell 4 rfl; have f5 : ∀ W : Aft w1, W.val.cell? ⟨gc, 5, none⟩ = some (.int .i64 b.air.hi) := fun W => (f W).cell 5 rfl; have f6 : ∀ W : Aft w1, W.val.cell? ⟨gc, 6, none⟩ = some (.int .i64 b.air.hi) := fun W => (f W).cell 6 rfl; go_big_quiet_op; first | exact hK | fail))
          (refine wpAnyG_take (i := 1) hCC hC0 rfl (by kernel_rfl) (by kernel_rfl) (by kernel_rfl) (fun _ _ _ _ h => h) (by rfl) ?_; apply Exists.intro; refine ⟨fun w1 h1 K hK => ?_, ?_⟩; · ( go_big_quiet_op; first | exact hK | fail))
          (refine wpAnyG_take (i := 2) hCC hC0 rfl (by kernel_rfl) (by kernel_rfl) (by kernel_rfl) (fun _ _ _ _ h => h) (by rfl) ?_; apply Exists.intro; refine ⟨fun w1 h1 K hK => ?_, ?_⟩; · ( go_big_quiet_op; first | exact hK | fail))
          (refine wpAnyG_take (i := 3) hCC hC0 rfl (by kernel_rfl) (by kernel_rfl) (by kernel_rfl) (fun _ _ _ _ h => h) (by rfl) ?_; apply Exists.intro; refine ⟨fun w1 h1 K hK => ?_, ?_⟩; · ( go_big_quiet_op; first | exact hK | exact ⟨_, fun W => aft_call (span_any _ _ _), hK⟩))
          (refine wpAnyG_take (i := 4) hCC hC0 rfl (by kernel_rfl) (by kernel_rfl) (by kernel_rfl) (fun _ _ _ _ h => h) (by rfl) ?_; apply Exists.intro; refine ⟨fun w1 h1 K hK => ?_, ?_⟩; · (have f := fun W9 : Aft w1 => za.below (hCC _ _ h1 W9.below); have f0 : ∀ W : Aft w1, W.val.cell? ⟨ga, 0, none⟩ = some (.int .i64 (fz k)) := fun W => (f W).cell 0 rfl; have f1 : ∀ W : Aft w1, W.val.cell? ⟨ga, 1, none⟩ = some (.int .i64 (fz k)) := fun W => (f W).cell 1 rfl; go_big_quiet_op; first | exact hK | fail))
          (refine wpAnyG_take (i := 5) hCC hC0 rfl (by kernel_rfl) (by kernel_rfl) (by kernel_rfl) (fun _ _ _ _ h => h) (by rfl) ?_; apply Exists.intro; refine ⟨fun w1 h1 K hK => ?_, ?_⟩; · ( go_big_quiet_op; first | exact hK | fail))
          (refine wpAnyG_take (i := 6) hCC hC0 rfl (by kernel_rfl) (by kernel_rfl) (by kernel_rfl) (fun _ _ _ _ h => h) (by rfl) ?_; apply Exists.intro; refine ⟨fun w1 h1 K hK => ?_, ?_⟩; · ( go_big_quiet_op; first | exact hK | exact ⟨_, fun W => aft_call (HA.out _ (LB.trans ((hCC _ _ h1 W.below).mono LB.size))), hK⟩))
          (refine wpAnyG_take (i := 7) hCC hC0 rfl (by kernel_rfl) (by kernel_rfl) (by kernel_rfl) (fun _ _ _ _ h => h) (by rfl) ?_; apply Exists.intro; refine ⟨fun w1 h1 K hK => ?_, ?_⟩; · ( go_big_quiet_op; first | exact hK | fail))
          (refine wpAnyG_take (i := 8) hCC hC0 rfl (by kernel_rfl) (by kernel_rfl) (by kernel_rfl) (fun _ _ _ _ h => h) (by rfl) ?_; apply Exists.intro; refine ⟨fun w1 h1 K hK => ?_, ?_⟩; · ( go_big_quiet_op; first | exact hK | fail))
          (refine wpAnyG_take (i := 9) hCC hC0 rfl (by kernel_rfl) (by kernel_rfl) (by kernel_rfl) (fun _ _ _ _ h => h) (by rfl) ?_; apply Exists.intro; refine ⟨fun w1 h1 K hK => ?_, ?_⟩; · ( go_big_quiet_op; first | exact hK | fail))
          (refine wpAnyG_one (i := 10) (by kernel_rfl) rfl (by rfl) (fun wa hwa K hK => ?_)); go_simp; refine hK _ _ ((hCC _ _ hC0 hwa).alloc (by have := hC0.size; have := hwa.size; omega) _) ?_; clear hK K
          have s9 := Box.new (g := wa.heap.size) #[.int .i64 0, .int .i64 0] 24 wa rfl
          have hC1 := (hCC _ _ hC0 hwa).alloc (by have := hC0.size; have := hwa.size; omega) (.cells #[.int .i64 0, .int .i64 0] 24)
          have hg9 : wv.heap.size ≤ wa.heap.size := Nat.le_trans hC0.size hwa.size
          clear hwa
          obtain ⟨g9, hG⟩ : ∃ G, G = wa.heap.size := ⟨_, rfl⟩
          obtain ⟨wA, hWA⟩ : ∃ X, X = wa.alloc (.cells #[.int .i64 0, .int .i64 0] 24) := ⟨_, rfl⟩
          rw [← hG] at s9 hg9 ⊢
          rw [← hWA] at s9 hC1 ⊢
          clear hG hWA
          (refine wpAnyG_one (i := 11) (by kernel_rfl) rfl (by rfl) (fun wb hwb K hK => ?_)); refine wp_store_box (s9.below hwb) rfl rfl rfl rfl (by kernel_rfl) (by simp [Value.oneCell']) (fun wc s8 ho => ?_); dsimp only [Act.put]; refine hK _ _ ((hCC _ _ hC1 hwb).trans (ho.below hg9)) ?_; clear hK K
          have hC2 := (hCC _ _ hC1 hwb).trans (ho.below hg9)
          clear s9 hC1 ho hwb
          (refine wpAnyG_one (i := 12) (by kernel_rfl) rfl (by rfl) (fun wd hwd K hK => ?_)); go_simp; refine hK _ _ (hCC _ _ hC2 hwd) ?_; clear hK K
          refine wpAnyG_done (by kernel_rfl) (fun wz hwz => ?_) _
          have h9 := (s8.below hwd).below hwz
          have hz9 := hCC _ _ (hCC _ _ hC2 hwd) hwz
          clear s8 hC2 hwd hwz hC0 hCC
          have yL := LB.trans (hz9.mono LB.size)
          have yU := hbu.trans (hz9.mono hbu.size)
          have yA := zA.below hz9
          obtain ⟨gC, hG⟩ : ∃ z, z = g9 := ⟨_, rfl⟩
          obtain ⟨ww, hW⟩ : ∃ X, X = wz := ⟨_, rfl⟩
          rw [← hG, ← hW] at h9
          rw [← hW] at yL yU yA ⊢
          rw [← hG] at ⊢
          clear hG hW hz9 hg9 LB hbu zA
          have zC := h9
          have LB := yL
          have hbu := yU
          have zA := yA
          clear h9 yL yU yA
          clear zc za HA
          have q0 := zA.cell 0 rfl
          have q1 := zC.cell 1 rfl
          have q2 := zA.lt
          have q3 := zC.lt
          simp only [List.getElem_toArray, List.getElem_cons_zero, List.getElem_cons_succ] at q0 q1
          have eA : ((lowB b).waterR (scX (b.light x) (fz k))).1.lo = A1.lo := by rw [HLT.out, HA1.out]
          have eC : ((highB b).waterR (scX (b.heavy x) (fz k))).1.hi = C1.hi := by rw [HHV.out, HC1.out]
          have RLO := Lib.hid (lowK_succ (x := x) (f := fz) (k := k) HW.out)
          have RHI := Lib.hid (highK_succ (x := x) (f := fz) (k := k) HW.out)
          have EA := Lib.hid eA
          have EC := Lib.hid eC
          clear eA eC zA zC
          by_cases hk9 : k = 0
          · have zk : ((k : Int) == 0) = true := by simpa using hk9
            have HK9 := Lib.hid (show k = 0 ∨ A1.lo < lowK b x fz k from .inl hk9)
            clear hk9
            go_wp2_with fail
            go_roundw
            case rel => exact ⟨k + 1, by omega, by go_num, by rw [RLO.out, EA.out, if_pos HK9.out], by rw [RHI.out, EC.out], fun _ _ => HHH.out, hbu⟩
            case measure => simp [intOf]; omega
          · have zk : ((k : Int) == 0) = false := by simpa using hk9
            by_cases hl9 : A1.lo < lowK b x fz k
            · have zl : decide (A1.lo < lowK b x fz k) = true := by simpa using hl9
              have HK9 := Lib.hid (show k = 0 ∨ A1.lo < lowK b x fz k from .inr hl9)
              clear hk9 hl9
              go_wp2_with fail
              go_roundw
              case rel => exact ⟨k + 1, by omega, by go_num, by rw [RLO.out, EA.out, if_pos HK9.out], by rw [RHI.out, EC.out], fun _ _ => HHH.out, hbu⟩
              case measure => simp [intOf]; omega
            · have zl : decide (A1.lo < lowK b x fz k) = false := by simpa using hl9
              have HK9 := Lib.hid (show ¬ (k = 0 ∨ A1.lo < lowK b x fz k) by omega)
              clear hk9 hl9
              go_wp2_with fail
              go_roundw
              case rel => exact ⟨k + 1, by omega, by go_num, by rw [RLO.out, EA.out, if_neg HK9.out], by rw [RHI.out, EC.out], fun _ _ => HHH.out, hbu⟩
              case measure => simp [intOf]; omega
        · have hd1 : decide (k < K) = false := by simpa using hlt
          skip
          have hkK : k = K := by omega
          subst hkK
          obtain ⟨e1, e2⟩ := HEK.out (hheavy (by omega))
          rw [e1, e2]
          clear e1 e2 hheavy
          obtain ⟨W7, hW⟩ : ∃ X, X = wr := ⟨_, rfl⟩
          rw [← hW] at hb ⊢
          clear hW
          have L_6 := Lib.hid (L_5.out.below hb)
          have KS_6 := Lib.hid (KS_5.out.below hb)
          have K9_4 := Lib.hid (K9_3.out.below hb)
          have HIA_1 := Lib.hid (HIA_0.out.mono hb)
          clear L_5 KS_5 K9_3 HIA_0 hb
          clear HIA_1
          go_wp2_with fail
          have f0 : ∀ W : Aft W7, W.val.cell? ⟨gv, 0, none⟩ = some (.int .i64 v.lo) := fun W => (K9_4.out.below W.below).cell 0 rfl
          have f1 : ∀ W : Aft W7, W.val.cell? ⟨gv, 1, none⟩ = some (.int .i64 v.hi) := fun W => (K9_4.out.below W.below).cell 1 rfl
          refine wp_region_aft (by kernel_rfl) (by kernel_rfl) ?_
          repeat (go_big_quiet_step ((go_at_call 31; exact aft_call (span_any _ _ _))))
          refine wpQuiet_nil ?_
          intro WA
          obtain ⟨wy, hwy⟩ : ∃ X, X = WA.val := ⟨_, rfl⟩
          have hby := WA.below
          rw [← hwy] at hby ⊢
          clear hwy WA
          clear f0 f1
          have L_7 := Lib.hid (L_6.out.below hby)
          have KS_7 := Lib.hid (KS_6.out.below hby)
          have K9_5 := Lib.hid (K9_4.out.below hby)
          clear L_6 KS_6 K9_4 hby
          obtain ⟨W8, hW⟩ : ∃ X, X = wy := ⟨_, rfl⟩
          rw [← hW] at L_7 KS_7 K9_5  ⊢
          clear hW
          obtain ⟨b0, b1, b2, b3, b4, b5, b6, b7⟩ := BB.cells (b := b) L_7.out.B
          obtain ⟨c0, c1, c2, c3, c4, c5, c6⟩ := CB.cells (x := x) L_7.out.X
          have k0 := KS_7.out.cell 0 (v := .int .i64 s.lo) rfl
          have k1 := KS_7.out.cell 1 (v := .int .i64 s.hi) rfl
          have k2 := KS_7.out.lt
          go_wp2_with fail
          refine (Flow_any b x s oa cap _ (by omega) hcap (HT.out.mono L_7.out.low)).mono ?_
          rintro e w8 ⟨rfl, hb8⟩
          clear k0 k1 k2
          obtain ⟨fs, hfs⟩ : ∃ z, z = (b.flowR x s).1 := ⟨_, rfl⟩
          obtain ⟨fe, hfe⟩ : ∃ z, z = (b.flowR x s).2 := ⟨_, rfl⟩
          rw [← hfs, ← hfe]
          have HFS := Lib.hid hfs
          have HFE := Lib.hid hfe
          clear hfs hfe
          clear b0 b1 b2 b3 b4 b5 b6 b7 c0 c1 c2 c3 c4 c5 c6
          have hbE := hb8.alloc hb8.size (.cells #[.int .i64 fs.lo, .int .i64 fs.hi] 24)
          have T9 := Box.new (g := w8.heap.size) #[.int .i64 fs.lo, .int .i64 fs.hi] 24 w8 rfl
          have L_8 := Lib.hid (L_7.out.below hbE)
          have KS_8 := Lib.hid (KS_7.out.below hbE)
          have K9_6 := Lib.hid (K9_5.out.below hbE)
          clear L_7 KS_7 K9_5 hbE
          clear hb8
          go_upto_region 41 with fail
          obtain ⟨gf, hg⟩ : ∃ n, n = w8.heap.size := ⟨_, rfl⟩
          obtain ⟨W9, hW⟩ : ∃ X, X = w8.alloc (.cells #[.int .i64 fs.lo, .int .i64 fs.hi] 24) := ⟨_, rfl⟩
          rw [← hW] at L_8 KS_8 K9_6 T9 ⊢
          rw [← hg] at T9 ⊢
          clear hW hg
          have K29_0 := Lib.hid T9
          clear T9
          by_cases hfe0 : fe = 0
          · have hfo : (b.flowR x s).2 = 0 := by rw [← HFE.out]; exact hfe0
            obtain ⟨hsp, hfs⟩ := flow_ok hfo
            rw [← HFS.out, ← HV.out] at hfs
            simp only [spanB, decide_eq_true_eq] at hsp
            obtain ⟨s1, s2, s3⟩ := hsp
            have FE := flow_ends (v := v) (s := s) (by omega) (by omega)
            have elo : fs.lo = rnd 0 (v.lo * 3600) s.hi := by rw [hfs]
            have ehi : fs.hi = rnd 1 (v.hi * 3600) s.lo := by rw [hfs]
            rw [← elo, ← ehi] at FE
            obtain ⟨⟨F1, F2⟩, F3, F4⟩ := FE
            clear hfs elo ehi hfo
            have b1 := fac_bd (B := 1000000000000000000) (show 1 ≤ s.hi by omega) F1 F2 (by omega) (by omega)
            have b2 := fac_up (B := 1000000000000000000) (by omega) s1 F3 F4 (by omega) (by omega)
            have m1 : 0 ≤ fs.lo * s.hi := Int.mul_nonneg b1.1 (by omega)
            have m2 : (fs.lo + 1) * s.hi = fs.lo * s.hi + s.hi := by rw [Int.add_mul, Int.one_mul]
            have m3 : (fs.hi - 1) * s.lo = fs.hi * s.lo - s.lo := by rw [Int.sub_mul, Int.one_mul]
            have m4 : 0 ≤ fs.hi * s.lo := Int.mul_nonneg b2.1 (by omega)
            have V1 : IntKind.i64.wrap (fs.lo * s.hi) = fs.lo * s.hi := IntWalk.i64_in _ (by omega)
            have V2 : IntKind.i64.wrap (v.lo * 3600) = v.lo * 3600 := IntWalk.i64_in _ (by omega)
            have V3 : IntKind.i64.wrap (fs.lo + 1) = fs.lo + 1 := IntWalk.i64_in _ (by omega)
            have V4 : IntKind.i64.wrap ((fs.lo + 1) * s.hi) = (fs.lo + 1) * s.hi := IntWalk.i64_in _ (by omega)
            have V5 : IntKind.i64.wrap (fs.hi * s.lo) = fs.hi * s.lo := IntWalk.i64_in _ (by omega)
            have V6 : IntKind.i64.wrap (v.hi * 3600) = v.hi * 3600 := IntWalk.i64_in _ (by omega)
            have V7 : IntKind.i64.wrap (fs.hi - 1) = fs.hi - 1 := IntWalk.i64_in _ (by omega)
            have V8 : IntKind.i64.wrap ((fs.hi - 1) * s.lo) = (fs.hi - 1) * s.lo := IntWalk.i64_in _ (by omega)
            have z1 : decide (v.lo * 3600 < fs.lo * s.hi) = false := by simp; omega
            have z2 : decide ((fs.lo + 1) * s.hi ≤ v.lo * 3600) = false := by simp; omega
            have z3 : decide (fs.hi * s.lo < v.hi * 3600) = false := by simp; omega
            have z4 : decide (v.hi * 3600 ≤ (fs.hi - 1) * s.lo) = false := by simp; omega
            clear F1 F2 F3 F4 b1 b2 m1 m2 m3 m4 HFE HFS
            subst hfe0
            have k0 := KS_8.out.cell 0 (v := .int .i64 s.lo) rfl
            have k1 := KS_8.out.cell 1 (v := .int .i64 s.hi) rfl
            have k2 := KS_8.out.lt
            have v0 := K9_6.out.cell 0 (v := .int .i64 v.lo) rfl
            have v1 := K9_6.out.cell 1 (v := .int .i64 v.hi) rfl
            have v2 := K9_6.out.lt
            have u0 := K29_0.out.cell 0 (v := .int .i64 fs.lo) rfl
            have u1 := K29_0.out.cell 1 (v := .int .i64 fs.hi) rfl
            have u2 := K29_0.out.lt
            go_upto_region 43 with fail
            clear k0 k1 k2 v0 v1 v2 u0 u1 u2 z1 z2 z3 z4 V1 V2 V3 V4 V5 V6 V7 V8 s1 s2 s3
            as_aux_lemma =>
              skip
              obtain ⟨b0, b1, b2, b3, b4, b5, b6, b7⟩ := BB.cells (b := b) L_8.out.B
              obtain ⟨c0, c1, c2, c3, c4, c5, c6⟩ := CB.cells (x := x) L_8.out.X
              go_wp2_with fail
              refine (Errors_any b x oa cap or m cr r _ (by omega) hcap (HT.out.mono L_8.out.low) (by omega) (HR.out.mono L_8.out.low)).mono ?_
              rintro e w9 ⟨o1, p1, rfl, hS1, hb9⟩
              clear b0 b1 b2 b3 b4 b5 b6 b7 c0 c1 c2 c3 c4 c5 c6
              have L_9 := Lib.hid (L_8.out.below hb9)
              have KS_9 := Lib.hid (KS_8.out.below hb9)
              have K9_7 := Lib.hid (K9_6.out.below hb9)
              have K29_1 := Lib.hid (K29_0.out.below hb9)
              clear L_8 KS_8 K9_6 K29_0 hb9
              have HS1_0 := Lib.hid hS1
              clear hS1
              by_cases hte : (b.testR x m r).2 = 0
              case neg =>
                rw [cnt_ne hte]
                generalize (b.testR x m r).2 = te at hte ⊢
                have hne : (te != 0) = true := by simpa using hte
                clear hte HS1_0
                go_wp2_with fail
                obtain ⟨WA, hW⟩ : ∃ X, X = w9 := ⟨_, rfl⟩
                rw [← hW] at L_9 ⊢
                clear hW
                go_loopw [33] (fun v33 wr => v33 = .int .i64 0 ∧ Below WA.heap.size WA wr) (fun _ _ => 0)
                case atStart => exact ⟨rfl, Below.refl _ _⟩
                case round =>
                  obtain ⟨rfl, hb⟩ := hrel
                  have hlz := L_9.out.low.trans (hb.mono L_9.out.low.size)
                  go_wp2_with fail
                  refine (awake_any _).mono ?_
                  rintro e wz ⟨rfl, hbz⟩
                  go_wp2
                  go_ret
                  exact ⟨rfl, hlz.trans (hbz.mono hlz.size)⟩
              obtain ⟨-, -, tv, tm, trow⟩ := (testR_form b x m r).resolve_left (fun h9 => by omega)
              rw [← HV.out] at tv
              rw [hte, tv, cnt_zero] at HS1_0
              rw [hte, cnt_zero]
              have HROW := Lib.hid trow
              clear hte tv trow
              go_wp2_with fail
              obtain ⟨WA, hW⟩ : ∃ X, X = w9 := ⟨_, rfl⟩
              rw [← hW] at L_9 KS_9 K9_7 K29_1 HS1_0  ⊢
              clear hW
              go_loopw [33] (fun v33 wr => ∃ j : Nat, j ≤ m ∧ v33 = .int .i64 j ∧ Below WA.heap.size WA wr) (fun i _ => m - (intOf i).toNat)
              case atStart => exact ⟨0, Nat.zero_le _, rfl, Below.refl _ _⟩
              case round =>
                obtain ⟨j, hj, rfl, hb⟩ := hrel
                by_cases hlt : j < m
                · as_aux_lemma =>
                  have hd1 : decide (j < m) = true := by simpa using hlt
                  have hj0 : (0 : Int) ≤ (j : Int) := by omega
                  have hj1 : (j : Int) < (m : Int) := by omega
                  obtain ⟨t1, o1', rfl, l1, q0, q1⟩ := (HS1_0.out.mono hb) j hlt
                  obtain ⟨tr, or', rfl, lr, r0, r1⟩ := (HR.out.mono (L_9.out.low.trans (hb.mono L_9.out.low.size))) j hlt
                  dsimp only at q0 q1
                  have EE := err_ends (v := v) (s := r j) y1 hv2
                  obtain ⟨ro0, ro1, ro2⟩ := HROW.out j hlt
                  generalize (errR v (r j)).lo = P at *
                  generalize (errR v (r j)).hi = Q at *
                  obtain ⟨⟨F1, F2⟩, F3, F4⟩ := EE
                  have b1 := fac_bd (B := 1000000000000000000) (show 1 ≤ v.hi by omega) F1 F2 (by omega) (by omega)
                  have b2 := fac_up (B := 1000000000000000000) (by omega) y1 F3 F4 (by omega) (by omega)
                  have m1 : 0 ≤ (P + 10000) * v.hi := Int.mul_nonneg b1.1 (by omega)
                  have m2 : (P + 10000 + 1) * v.hi = (P + 10000) * v.hi + v.hi := by rw [Int.add_mul _ 1, Int.one_mul]
                  have m3 : (Q + 10000 - 1) * v.lo = (Q + 10000) * v.lo - v.lo := by rw [Int.sub_mul, Int.one_mul]
                  have m4 : 0 ≤ (Q + 10000) * v.lo := Int.mul_nonneg b2.1 (by omega)
                  have f0 : ∀ W : Aft wr, W.val.cell? ⟨t1, o1' + j * 2, none⟩ = some (.int .i64 P) := fun W => (W.below.cell (p := ⟨t1, o1' + j * 2, none⟩) l1).trans q0
                  have f1 : ∀ W : Aft wr, W.val.cell? ⟨t1, o1' + j * 2 + 1, none⟩ = some (.int .i64 Q) := fun W => (W.below.cell (p := ⟨t1, o1' + j * 2 + 1, none⟩) l1).trans q1
                  have V1 : IntKind.i64.wrap (P + 10000) = P + 10000 := IntWalk.i64_in _ (by omega)
                  have V2 : IntKind.i64.wrap (Q + 10000) = Q + 10000 := IntWalk.i64_in _ (by omega)
                  go_wp2_with fail
                  refine wp_region_aft (by kernel_rfl) (by kernel_rfl) ?_
                  repeat (go_big_quiet_step (fail))
                  refine wpQuiet_nil ?_
                  intro WA
                  obtain ⟨wy, hwy⟩ : ∃ X, X = WA.val := ⟨_, rfl⟩
                  have hby := WA.below
                  rw [← hwy] at hby ⊢
                  clear hwy WA
                  have yb := hb.trans (hby.mono hb.size)
                  have l1' := Nat.lt_of_lt_of_le lr hby.size
                  have yr0 := (hby.cell (p := ⟨tr, or' + j * 2, none⟩) lr).trans r0
                  have yr1 := (hby.cell (p := ⟨tr, or' + j * 2 + 1, none⟩) lr).trans r1
                  clear f0 f1 q0 q1 l1 lr r0 r1 hb hby V1 V2
                  obtain ⟨A, hA⟩ : ∃ z, z = P + 10000 := ⟨_, rfl⟩
                  obtain ⟨C, hC⟩ : ∃ z, z = Q + 10000 := ⟨_, rfl⟩
                  rw [← hA] at F1 F2 b1 m1 m2
                  rw [← hC] at F3 F4 b2 m3 m4
                  rw [← hA, ← hC]
                  clear hA hC
                  have g0 : ∀ W : Aft wy, W.val.cell? ⟨tr, or' + j * 2, none⟩ = some (.int .i64 (r j).lo) := fun W => (W.below.cell (p := ⟨tr, or' + j * 2, none⟩) l1').trans yr0
                  have g1 : ∀ W : Aft wy, W.val.cell? ⟨tr, or' + j * 2 + 1, none⟩ = some (.int .i64 (r j).hi) := fun W => (W.below.cell (p := ⟨tr, or' + j * 2 + 1, none⟩) l1').trans yr1
                  have g2 : ∀ W : Aft wy, W.val.cell? ⟨gv, 0, none⟩ = some (.int .i64 v.lo) := fun W => ((K9_7.out.below yb).below W.below).cell 0 rfl
                  have g3 : ∀ W : Aft wy, W.val.cell? ⟨gv, 1, none⟩ = some (.int .i64 v.hi) := fun W => ((K9_7.out.below yb).below W.below).cell 1 rfl
                  have V1 : IntKind.i64.wrap (A * v.hi) = A * v.hi := IntWalk.i64_in _ (by omega)
                  have V2 : IntKind.i64.wrap (10000 * (r j).lo) = 10000 * (r j).lo := IntWalk.i64_in _ (by omega)
                  have V3 : IntKind.i64.wrap (A + 1) = A + 1 := IntWalk.i64_in _ (by omega)
                  have V4 : IntKind.i64.wrap ((A + 1) * v.hi) = (A + 1) * v.hi := IntWalk.i64_in _ (by omega)
                  have V5 : IntKind.i64.wrap (C * v.lo) = C * v.lo := IntWalk.i64_in _ (by omega)
                  have V6 : IntKind.i64.wrap (10000 * (r j).hi) = 10000 * (r j).hi := IntWalk.i64_in _ (by omega)
                  have V7 : IntKind.i64.wrap (C - 1) = C - 1 := IntWalk.i64_in _ (by omega)
                  have V8 : IntKind.i64.wrap ((C - 1) * v.lo) = (C - 1) * v.lo := IntWalk.i64_in _ (by omega)
                  have z1 : decide (10000 * (r j).lo < A * v.hi) = false := by simp; omega
                  have z2 : decide ((A + 1) * v.hi ≤ 10000 * (r j).lo) = false := by simp; omega
                  have z3 : decide (C * v.lo < 10000 * (r j).hi) = false := by simp; omega
                  have z4 : decide (10000 * (r j).hi ≤ (C - 1) * v.lo) = false := by simp; omega
                  clear F1 F2 F3 F4 b1 b2 m1 m2 m3 m4 yr0 yr1 ro0 ro1 ro2
                  go_wp2_with fail
                  refine wp_region_aft (by kernel_rfl) (by kernel_rfl) ?_
                  repeat (go_big_quiet_step (fail))
                  refine wpQuiet_nil ?_
                  intro WA
                  obtain ⟨wy, hwy⟩ : ∃ X, X = WA.val := ⟨_, rfl⟩
                  have hby := WA.below
                  rw [← hwy] at hby ⊢
                  clear hwy WA
                  clear g0 g1 g2 g3 V1 V2 V3 V4 V5 V6 V7 V8
                  go_wp2_with fail
                  go_roundw
                  case rel => exact ⟨j + 1, by omega, by go_num, yb.trans (hby.mono yb.size)⟩
                  case measure => simp [intOf]; omega
                · have hd1 : decide (j < m) = false := by simpa using hlt
                  have hlz := L_9.out.low.trans (hb.mono L_9.out.low.size)
                  go_wp2_with fail
                  refine (awake_any _).mono ?_
                  rintro e wz ⟨rfl, hbz⟩
                  go_wp2
                  go_ret
                  exact ⟨rfl, hlz.trans (hbz.mono hlz.size)⟩
          · have z1 : (fe == 0) = false := by simpa using hfe0
            clear hfe0 HFE HFS
            go_upto_region 43 with fail
            clear z1
            as_aux_lemma =>
              skip
              obtain ⟨b0, b1, b2, b3, b4, b5, b6, b7⟩ := BB.cells (b := b) L_8.out.B
              obtain ⟨c0, c1, c2, c3, c4, c5, c6⟩ := CB.cells (x := x) L_8.out.X
              go_wp2_with fail
              refine (Errors_any b x oa cap or m cr r _ (by omega) hcap (HT.out.mono L_8.out.low) (by omega) (HR.out.mono L_8.out.low)).mono ?_
              rintro e w9 ⟨o1, p1, rfl, hS1, hb9⟩
              clear b0 b1 b2 b3 b4 b5 b6 b7 c0 c1 c2 c3 c4 c5 c6
              have L_9 := Lib.hid (L_8.out.below hb9)
              have KS_9 := Lib.hid (KS_8.out.below hb9)
              have K9_7 := Lib.hid (K9_6.out.below hb9)
              have K29_1 := Lib.hid (K29_0.out.below hb9)
              clear L_8 KS_8 K9_6 K29_0 hb9
              have HS1_0 := Lib.hid hS1
              clear hS1
              by_cases hte : (b.testR x m r).2 = 0
              case neg =>
                rw [cnt_ne hte]
                generalize (b.testR x m r).2 = te at hte ⊢
                have hne : (te != 0) = true := by simpa using hte
                clear hte HS1_0
                go_wp2_with fail
                obtain ⟨WA, hW⟩ : ∃ X, X = w9 := ⟨_, rfl⟩
                rw [← hW] at L_9 ⊢
                clear hW
                go_loopw [33] (fun v33 wr => v33 = .int .i64 0 ∧ Below WA.heap.size WA wr) (fun _ _ => 0)
                case atStart => exact ⟨rfl, Below.refl _ _⟩
                case round =>
                  obtain ⟨rfl, hb⟩ := hrel
                  have hlz := L_9.out.low.trans (hb.mono L_9.out.low.size)
                  go_wp2_with fail
                  refine (awake_any _).mono ?_
                  rintro e wz ⟨rfl, hbz⟩
                  go_wp2
                  go_ret
                  exact ⟨rfl, hlz.trans (hbz.mono hlz.size)⟩
              obtain ⟨-, -, tv, tm, trow⟩ := (testR_form b x m r).resolve_left (fun h9 => by omega)
              rw [← HV.out] at tv
              rw [hte, tv, cnt_zero] at HS1_0
              rw [hte, cnt_zero]
              have HROW := Lib.hid trow
              clear hte tv trow
              go_wp2_with fail
              obtain ⟨WA, hW⟩ : ∃ X, X = w9 := ⟨_, rfl⟩
              rw [← hW] at L_9 KS_9 K9_7 K29_1 HS1_0  ⊢
              clear hW
              go_loopw [33] (fun v33 wr => ∃ j : Nat, j ≤ m ∧ v33 = .int .i64 j ∧ Below WA.heap.size WA wr) (fun i _ => m - (intOf i).toNat)
              case atStart => exact ⟨0, Nat.zero_le _, rfl, Below.refl _ _⟩
              case round =>
                obtain ⟨j, hj, rfl, hb⟩ := hrel
                by_cases hlt : j < m
                · as_aux_lemma =>
                  have hd1 : decide (j < m) = true := by simpa using hlt
                  have hj0 : (0 : Int) ≤ (j : Int) := by omega
                  have hj1 : (j : Int) < (m : Int) := by omega
                  obtain ⟨t1, o1', rfl, l1, q0, q1⟩ := (HS1_0.out.mono hb) j hlt
                  obtain ⟨tr, or', rfl, lr, r0, r1⟩ := (HR.out.mono (L_9.out.low.trans (hb.mono L_9.out.low.size))) j hlt
                  dsimp only at q0 q1
                  have EE := err_ends (v := v) (s := r j) y1 hv2
                  obtain ⟨ro0, ro1, ro2⟩ := HROW.out j hlt
                  generalize (errR v (r j)).lo = P at *
                  generalize (errR v (r j)).hi = Q at *
                  obtain ⟨⟨F1, F2⟩, F3, F4⟩ := EE
                  have b1 := fac_bd (B := 1000000000000000000) (show 1 ≤ v.hi by omega) F1 F2 (by omega) (by omega)
                  have b2 := fac_up (B := 1000000000000000000) (by omega) y1 F3 F4 (by omega) (by omega)
                  have m1 : 0 ≤ (P + 10000) * v.hi := Int.mul_nonneg b1.1 (by omega)
                  have m2 : (P + 10000 + 1) * v.hi = (P + 10000) * v.hi + v.hi := by rw [Int.add_mul _ 1, Int.one_mul]
                  have m3 : (Q + 10000 - 1) * v.lo = (Q + 10000) * v.lo - v.lo := by rw [Int.sub_mul, Int.one_mul]
                  have m4 : 0 ≤ (Q + 10000) * v.lo := Int.mul_nonneg b2.1 (by omega)
                  have f0 : ∀ W : Aft wr, W.val.cell? ⟨t1, o1' + j * 2, none⟩ = some (.int .i64 P) := fun W => (W.below.cell (p := ⟨t1, o1' + j * 2, none⟩) l1).trans q0
                  have f1 : ∀ W : Aft wr, W.val.cell? ⟨t1, o1' + j * 2 + 1, none⟩ = some (.int .i64 Q) := fun W => (W.below.cell (p := ⟨t1, o1' + j * 2 + 1, none⟩) l1).trans q1
                  have V1 : IntKind.i64.wrap (P + 10000) = P + 10000 := IntWalk.i64_in _ (by omega)
                  have V2 : IntKind.i64.wrap (Q + 10000) = Q + 10000 := IntWalk.i64_in _ (by omega)
                  go_wp2_with fail
                  refine wp_region_aft (by kernel_rfl) (by kernel_rfl) ?_
                  repeat (go_big_quiet_step (fail))
                  refine wpQuiet_nil ?_
                  intro WA
                  obtain ⟨wy, hwy⟩ : ∃ X, X = WA.val := ⟨_, rfl⟩
                  have hby := WA.below
                  rw [← hwy] at hby ⊢
                  clear hwy WA
                  have yb := hb.trans (hby.mono hb.size)
                  have l1' := Nat.lt_of_lt_of_le lr hby.size
                  have yr0 := (hby.cell (p := ⟨tr, or' + j * 2, none⟩) lr).trans r0
                  have yr1 := (hby.cell (p := ⟨tr, or' + j * 2 + 1, none⟩) lr).trans r1
                  clear f0 f1 q0 q1 l1 lr r0 r1 hb hby V1 V2
                  obtain ⟨A, hA⟩ : ∃ z, z = P + 10000 := ⟨_, rfl⟩
                  obtain ⟨C, hC⟩ : ∃ z, z = Q + 10000 := ⟨_, rfl⟩
                  rw [← hA] at F1 F2 b1 m1 m2
                  rw [← hC] at F3 F4 b2 m3 m4
                  rw [← hA, ← hC]
                  clear hA hC
                  have g0 : ∀ W : Aft wy, W.val.cell? ⟨tr, or' + j * 2, none⟩ = some (.int .i64 (r j).lo) := fun W => (W.below.cell (p := ⟨tr, or' + j * 2, none⟩) l1').trans yr0
                  have g1 : ∀ W : Aft wy, W.val.cell? ⟨tr, or' + j * 2 + 1, none⟩ = some (.int .i64 (r j).hi) := fun W => (W.below.cell (p := ⟨tr, or' + j * 2 + 1, none⟩) l1').trans yr1
                  have g2 : ∀ W : Aft wy, W.val.cell? ⟨gv, 0, none⟩ = some (.int .i64 v.lo) := fun W => ((K9_7.out.below yb).below W.below).cell 0 rfl
                  have g3 : ∀ W : Aft wy, W.val.cell? ⟨gv, 1, none⟩ = some (.int .i64 v.hi) := fun W => ((K9_7.out.below yb).below W.below).cell 1 rfl
                  have V1 : IntKind.i64.wrap (A * v.hi) = A * v.hi := IntWalk.i64_in _ (by omega)
                  have V2 : IntKind.i64.wrap (10000 * (r j).lo) = 10000 * (r j).lo := IntWalk.i64_in _ (by omega)
                  have V3 : IntKind.i64.wrap (A + 1) = A + 1 := IntWalk.i64_in _ (by omega)
                  have V4 : IntKind.i64.wrap ((A + 1) * v.hi) = (A + 1) * v.hi := IntWalk.i64_in _ (by omega)
                  have V5 : IntKind.i64.wrap (C * v.lo) = C * v.lo := IntWalk.i64_in _ (by omega)
                  have V6 : IntKind.i64.wrap (10000 * (r j).hi) = 10000 * (r j).hi := IntWalk.i64_in _ (by omega)
                  have V7 : IntKind.i64.wrap (C - 1) = C - 1 := IntWalk.i64_in _ (by omega)
                  have V8 : IntKind.i64.wrap ((C - 1) * v.lo) = (C - 1) * v.lo := IntWalk.i64_in _ (by omega)
                  have z1 : decide (10000 * (r j).lo < A * v.hi) = false := by simp; omega
                  have z2 : decide ((A + 1) * v.hi ≤ 10000 * (r j).lo) = false := by simp; omega
                  have z3 : decide (C * v.lo < 10000 * (r j).hi) = false := by simp; omega
                  have z4 : decide (10000 * (r j).hi ≤ (C - 1) * v.lo) = false := by simp; omega
                  clear F1 F2 F3 F4 b1 b2 m1 m2 m3 m4 yr0 yr1 ro0 ro1 ro2
                  go_wp2_with fail
                  refine wp_region_aft (by kernel_rfl) (by kernel_rfl) ?_
                  repeat (go_big_quiet_step (fail))
                  refine wpQuiet_nil ?_
                  intro WA
                  obtain ⟨wy, hwy⟩ : ∃ X, X = WA.val := ⟨_, rfl⟩
                  have hby := WA.below
                  rw [← hwy] at hby ⊢
                  clear hwy WA
                  clear g0 g1 g2 g3 V1 V2 V3 V4 V5 V6 V7 V8
                  go_wp2_with fail
                  go_roundw
                  case rel => exact ⟨j + 1, by omega, by go_num, yb.trans (hby.mono yb.size)⟩
                  case measure => simp [intOf]; omega
                · have hd1 : decide (j < m) = false := by simpa using hlt
                  have hlz := L_9.out.low.trans (hb.mono L_9.out.low.size)
                  go_wp2_with fail
                  refine (awake_any _).mono ?_
                  rintro e wz ⟨rfl, hbz⟩
                  go_wp2
                  go_ret
                  exact ⟨rfl, hlz.trans (hbz.mono hlz.size)⟩
end Go.Proofs.Ythoefcpeagclbaa
