/- StepOrder returns true. -/
import Derived.Test.YtpognhnmkjpipaaDoorO1
namespace Go.Proofs.YtpognhnmkjpipaaDoor
open Go.RowKit
/-- what StepOrder keeps at its beginning -/
structure E8 (t : Tst) (oa : Option Addr) (ca : Nat) (ob : Option Addr) (cb k : Nat) (w W : World) : Prop where
  low : Below w.heap.size w W
  h4 : TB t oa ca ob cb w.heap.size W
  h7 : Box (w.heap.size + 1) #[.int .u8 (k : Nat)] 5 W
theorem E8.on {t : Tst} {oa : Option Addr} {ca : Nat} {ob : Option Addr} {cb k : Nat} {w A B : World} (h : E8 t oa ca ob cb k w A) (hb : Below A.heap.size A B) : E8 t oa ca ob cb k w B :=
  ⟨h.low.trans (hb.mono h.low.size), h.h4.below hb, h.h7.below hb⟩
/-- what it keeps while it makes the turned test -/
structure O8 (t : Tst) (oa : Option Addr) (ca : Nat) (ob : Option Addr) (cb k gn gX gU : Nat) (ss : Value) (cur : Array Value) (w W : World) : Prop where
  e : E8 t oa ca ob cb k w W
  hn : Box gn #[.int .i64 (t.n : Nat)] 3 W
  hX : Box gX #[.slice (some ⟨gU, 0, none⟩) t.n t.n, .int .i64 t.leaks, .int .i64 t.least, ss] 25 W
  hU : Box gU cur 37 W
theorem O8.on {t : Tst} {oa : Option Addr} {ca : Nat} {ob : Option Addr} {cb k gn gX gU : Nat} {ss : Value} {cur : Array Value} {w A B : World} (h : O8 t oa ca ob cb k gn gX gU ss cur w A) (hb : Below A.heap.size A B) : O8 t oa ca ob cb k gn gX gU ss cur w B :=
  ⟨h.e.on hb, h.hn.below hb, h.hX.below hb, h.hU.below hb⟩
theorem O8.grown {t : Tst} {oa : Option Addr} {ca : Nat} {ob : Option Addr} {cb k gn gX gU : Nat} {ss : Value} {cur : Array Value} {w A B : World} {size m : Nat} {v : Value} {xs : List Value} (h : O8 t oa ca ob cb k gn gX gU ss cur w A) (ho : A.ownsRow w.heap.size 49 size v m xs) (hg : A.grownBy B v.ownBlock) : O8 t oa ca ob cb k gn gX gU ss cur w B :=
  ⟨⟨below_grown h.e.low ho hg, box_grown h.e.h4 ho (by decide) hg, box_grown h.e.h7 ho (by decide) hg⟩, box_grown h.hn ho (by decide) hg, box_grown h.hX ho (by decide) hg, box_grown h.hU ho (by decide) hg⟩
theorem own_ne8 {g g' : Nat} {cs cs' : Array Value} {t t' : TypeId} {w : World} (h : Box g cs t w) (h' : Box g' cs' t' w) (hne : t ≠ t') : g ≠ g' := fun e => by
  subst e
  have := h.row.symm.trans h'.row
  simp at this
  exact hne this.2
theorem own_lt8 {w : World} {base e size n : Nat} {v : Value} {xs : List Value} (h : w.ownsRow base e size v n xs) : ∀ b, v.ownBlock = some b → b < w.heap.size := fun b hb => by
  rcases h.2 with ⟨rfl, _⟩ | ⟨g', c, cur, rfl, _, hg, _⟩
  · cases hb
  · simp only [Value.ownBlock, Option.some.injEq] at hb
    subst hb
    rcases Nat.lt_or_ge g' w.heap.size with h' | h'
    · exact h'
    · rw [Array.getElem?_eq_none h'] at hg; cases hg
theorem wp_make {op : Oper} {a : Act} {w : World} {K : Act → World → Prop} {Q : Exit → Act → World → Prop} {l : Operand} {n : Nat} (ho : op.op = .makeSlice 22 l l) (hl : a.eval l = .int .i64 (n : Nat)) (hn : n ≤ 1000000)
    (h : K (a.put op.dst (.slice (some ⟨w.heap.size, 0, none⟩) n n)) (w.alloc (.cells (madeCells #[.int .i64 0, .int .i64 0] (n * 2)) 37))) : op.wp Tryd.prog a w K Q := by
  obtain ⟨iU, hiU, hzU0, hzU1, hzU2⟩ := info_parts (P := Tryd.prog) (e := 37) (z := .agg #[.int .i64 0, .int .i64 0]) (size := 2) (bytes := 16) (by kernel_rfl)
  have hr := run_make (P := Tryd.prog) w 22 37 iU _ Tryd.underlying22 hiU hzU0 .i64 .i64 (n : Nat) (n : Nat) (by omega) (Int.le_refl _) (by rw [hzU2]; omega) (by omega)
  rw [hzU1, Int.toNat_natCast] at hr
  unfold Oper.wp
  simp only [execOp, ho, hl, hr, Sem.run_bind, Sem.run_pure, Result.andThen_ok]
  exact h
theorem uses_put {n k i : Nat} {u : Nat → Spn} {cur : Array Value} (hi : i < n) (hsz : cur.size = n * 2) (h : ∀ c, c < i → cur[rot n k c * 2]? = some (.int .i64 (u c).lo) ∧ cur[rot n k c * 2 + 1]? = some (.int .i64 (u c).hi)) :
    ∀ c, c < i + 1 → ((cur.setIfInBounds (rot n k i * 2) (.int .i64 (u i).lo)).setIfInBounds (rot n k i * 2 + 1) (.int .i64 (u i).hi))[rot n k c * 2]? = some (.int .i64 (u c).lo) ∧ ((cur.setIfInBounds (rot n k i * 2) (.int .i64 (u i).lo)).setIfInBounds (rot n k i * 2 + 1) (.int .i64 (u i).hi))[rot n k c * 2 + 1]? = some (.int .i64 (u c).hi) := fun c hc => by
  have hr := rot_lt (n := n) (by omega) k i
  by_cases hci : c = i
  · subst hci
    rw [Array.getElem?_setIfInBounds, Array.getElem?_setIfInBounds, Array.getElem?_setIfInBounds, if_neg (by omega), if_pos rfl, if_pos (by omega), if_pos rfl, if_pos (by simp; omega)]
    exact ⟨rfl, rfl⟩
  · have hne : rot n k c ≠ rot n k i := fun e => hci (rot_inj (by omega) hi e)
    rw [Array.getElem?_setIfInBounds, Array.getElem?_setIfInBounds, Array.getElem?_setIfInBounds, Array.getElem?_setIfInBounds, if_neg (by omega), if_neg (by omega), if_neg (by omega), if_neg (by omega)]
    exact h c (by omega)
theorem uses_spns {n k gU : Nat} {u : Nat → Spn} {cur : Array Value} {W : World} (hB : Box gU cur 37 W) (h : ∀ c, c < n → cur[rot n k c * 2]? = some (.int .i64 (u c).lo) ∧ cur[rot n k c * 2 + 1]? = some (.int .i64 (u c).hi)) : SpnsAt W (some ⟨gU, 0, none⟩) n (fun j => u (unrot n k j)) := fun j hj => by
  obtain ⟨h0, h1⟩ := h _ (unrot_lt k hj)
  rw [rot_unrot k hj] at h0 h1
  exact ⟨gU, 0, rfl, hB.lt, by rw [Nat.zero_add]; exact hB.cell _ h0, by rw [Nat.zero_add]; exact hB.cell _ h1⟩
/-- what StepOrder keeps while it asks both tests -/
structure F8 (t : Tst) (oa : Option Addr) (ca : Nat) (ob : Option Addr) (cb k gn gX gU : Nat) (oS : Option Addr) (cS : Nat) (vo oV : Option Addr) (mv : Nat) (v : Nat → Int) (w W : World) : Prop where
  e : E8 t oa ca ob cb k w W
  hn : Box gn #[.int .i64 (t.n : Nat)] 3 W
  hX : Box gX #[.slice (some ⟨gU, 0, none⟩) t.n t.n, .int .i64 t.leaks, .int .i64 t.least, .slice oS t.m cS] 25 W
  mX : Mem (t.turn k) (some ⟨gU, 0, none⟩) oS W
  mT : Mem t oa ob W
  iV : IntsAt W oV mv (fun j => turnZ t.n k (v j))
  iT : IntsAt W vo mv v
theorem F8.on {t : Tst} {oa : Option Addr} {ca : Nat} {ob : Option Addr} {cb k gn gX gU : Nat} {oS : Option Addr} {cS : Nat} {vo oV : Option Addr} {mv : Nat} {v : Nat → Int} {w A B : World} (h : F8 t oa ca ob cb k gn gX gU oS cS vo oV mv v w A) (hb : Below A.heap.size A B) : F8 t oa ca ob cb k gn gX gU oS cS vo oV mv v w B :=
  ⟨h.e.on hb, h.hn.below hb, h.hX.below hb, h.mX.on hb, h.mT.on hb, h.iV.mono hb, h.iT.mono hb⟩
theorem own_sur (t : Tst) : t.surelyR < 2 ^ t.n := by
  by_cases h : t.err = 0
  · rw [(res_ok h).2.2.2]; exact (bits_lt (t := t) (2 ^ t.n) (Nat.le_refl _)).2
  · rw [(res_no h).2]; exact Nat.two_pow_pos _
set_option maxRecDepth 100000 in
set_option maxHeartbeats 20000000 in
theorem stepOrder_any (t : Tst) (oa : Option Addr) (ca : Nat) (ob : Option Addr) (cb : Nat) (z : Int) (vo : Option Addr) (mv vc : Nat) (v : Nat → Int) (k : Nat) (w : World) (hM : Mem t oa ob w) (hV : IntsAt w vo mv v) (hk : k < 256) :
    Calls Tryd.prog 8 #[t.val oa ca ob cb, .int .i64 z, .slice vo mv vc, .int .u8 (k : Nat)] w fun e w' => e = .returned (.bool true) ∧ Below w.heap.size w w' := by
  have HM := Lib.hid hM
  have HV := Lib.hid hV
  clear hM hV
  go_enter Tryd.func8, Tryd.ntmps8
  go_wp2_with fail
  have hI0 : E8 t oa ca ob cb k w ((w.alloc (.cells #[.slice oa t.n ca, .int .i64 t.leaks, .int .i64 t.least, .slice ob t.m cb] 25)).alloc (.cells #[.int .u8 (k : Nat)] 5)) := ⟨(by repeat' (first | exact Below.refl _ _ | assumption | apply below_drewN | apply Below.drew | (refine Below.alloc ?_ ?_ _) | (refine Below.setCell ?_ ?_ _) | (simp; done) | (simp; omega) | omega)), (Box.new _ 25 w rfl).old _, Box.new _ 5 _ (by simp)⟩
  obtain ⟨X0, hW⟩ : ∃ X, X = ((w.alloc (.cells #[.slice oa t.n ca, .int .i64 t.leaks, .int .i64 t.least, .slice ob t.m cb] 25)).alloc (.cells #[.int .u8 (k : Nat)] 5)) := ⟨_, rfl⟩
  rw [← hW] at hI0 ⊢
  clear hW
  refine (large_any t oa ca ob cb _).mono ?_
  rintro e X1 ⟨rfl, hb⟩
  have I1 := Lib.hid (hI0.on hb)
  clear hI0 hb
  cases hl : largeB t.n t.m
  case true =>
    clear hl
    go_wp2_with fail
    refine (awake_any _ (HM.out.on I1.out.low).T (HM.out.on I1.out.low).l).mono ?_
    rintro e X2 ⟨rfl, hb⟩
    have I2 := Lib.hid (I1.out.on hb)
    clear hb
    go_wp2_with fail
    go_ret
    exact ⟨rfl, I2.out.low⟩
  case false =>
    have hn : t.n ≤ 16 ∧ t.m ≤ 16 := by
      simp only [largeB, Bool.or_eq_false_iff, decide_eq_false_iff_not] at hl
      omega
    clear hl
    obtain ⟨hn, hm⟩ := hn
    by_cases hmv : 20 < mv
    · have hd : decide (20 < mv) = true := decide_eq_true hmv
      have hd2 : decide ((20 : Int) < (mv : Int)) = true := decide_eq_true (by omega)
      go_wp2_with fail
      refine (awake_any _ (HM.out.on I1.out.low).T (HM.out.on I1.out.low).l).mono ?_
      rintro e X2 ⟨rfl, hb⟩
      have I2 := Lib.hid (I1.out.on hb)
      clear hb
      go_wp2_with fail
      go_ret
      exact ⟨rfl, I2.out.low⟩
    have hd : decide (20 < mv) = false := decide_eq_false hmv
    have hd2 : decide ((20 : Int) < (mv : Int)) = false := decide_eq_false (by omega)
    obtain ⟨c0, c1, c2, c3, c4⟩ := TB.cells I1.out.h4
    have M1 := Lib.hid (HM.out.on I1.out.low)
    go_wp2_with fail
    refine (suspects_any t oa ca ob cb X1 (by omega) (by omega) M1.out.u M1.out.s M1.out.T M1.out.l).mono ?_
    rintro e X2 ⟨rfl, hb⟩
    have I2 := Lib.hid (I1.out.on hb)
    have M2 := Lib.hid (M1.out.on hb)
    clear hb I1 M1 hd hd2 c0 c1 c2 c3 c4
    obtain ⟨c0, c1, c2, c3, c4⟩ := TB.cells I2.out.h4
    cases hv : t.valid
    case false =>
      rw [err_no hv]
      clear hv
      go_wp2_with fail
      refine (awake_any _ M2.out.T M2.out.l).mono ?_
      rintro e X3 ⟨rfl, hb⟩
      have I3 := Lib.hid (I2.out.on hb)
      clear hb
      go_wp2_with fail
      go_ret
      exact ⟨rfl, I3.out.low⟩
    case true =>
      have HVD := Lib.hid hv
      have hk9 := Tst.ok hv
      have hn1 := hk9.n1
      have hn2 := hk9.n2
      have h10 := pow_ten hn2
      obtain ⟨hcl, hsl⟩ := res_lt (t := t) hn2
      have he1 : t.err ≠ 1 := fun h9 => by rw [err_valid, hv] at h9; cases h9
      obtain ⟨er, her⟩ : ∃ e, e = t.err := ⟨_, rfl⟩
      rw [← her] at he1 ⊢
      have HER := Lib.hid her
      have he2 : (er == 1) = false := by simpa using he1
      clear hk9 hv her
      go_wp2_with fail
      refine (refTest_any t oa ca ob cb X2 (by omega) (by omega) M2.out.u M2.out.s).mono ?_
      rintro e X3 ⟨rfl, hb⟩
      rw [HVD.out]
      have I3 := Lib.hid (I2.out.on hb)
      have M3 := Lib.hid (M2.out.on hb)
      clear hb I2 M2 c0 c1 c2 c3 c4
      obtain ⟨c0, c1, c2, c3, c4⟩ := TB.cells I3.out.h4
      go_upto_region 8 with fail
      have I4 := Lib.hid (I3.out.on (below_alloc1 X3 (.cells #[.int .i64 (t.n : Nat)] 3)))
      have ZN := Lib.hid (Box.new (g := X3.heap.size) #[.int .i64 (t.n : Nat)] 3 X3 rfl)
      have hgn : w.heap.size + 2 ≤ X3.heap.size := by have := I3.out.h7.lt; omega
      obtain ⟨X4, hW⟩ : ∃ X, X = X3.alloc (.cells #[.int .i64 (t.n : Nat)] 3) := ⟨_, rfl⟩
      obtain ⟨gn, hG⟩ : ∃ g, g = X3.heap.size := ⟨_, rfl⟩
      rw [← hW] at I4 ZN ⊢
      rw [← hG] at ZN hgn ⊢
      clear hW hG I3 M3 c0 c1 c2 c3 c4
      go_cut [14] (fun v14 wx => Below X4.heap.size X4 wx ∧ ∃ gX gU, v14 = .pointer (some ⟨gX, 0, none⟩) ∧ X4.heap.size ≤ gX ∧ X4.heap.size ≤ gU ∧ Box gX #[.slice (some ⟨gU, 0, none⟩) t.n t.n, .int .i64 t.leaks, .int .i64 t.least, .slice none 0 0] 25 wx ∧ Box gU (madeCells #[.int .i64 0, .int .i64 0] (t.n * 2)) 37 wx)
      case first =>
        have hCC : ∀ A B : World, Below X4.heap.size X4 A → Below A.heap.size A B → Below X4.heap.size X4 B := fun A B h1 h2 => h1.trans (h2.mono h1.size)
        have hC0 : Below X4.heap.size X4 X4.drew := (Below.refl _ _).drew
        refine wp_region_garb (Below X4.heap.size X4) (by kernel_rfl) ?_
        (refine wpAnyG_take (i := 0) hCC hC0 rfl (by kernel_rfl) (by kernel_rfl) (by kernel_rfl) (fun _ _ _ _ h => h) (by rfl) ?_; apply Exists.intro; refine ⟨fun w1 h1 K hK => ?_, ?_⟩; · (have g0 : ∀ W : Aft w1, W.val.cell? ⟨gn, 0, none⟩ = some (.int .i64 (t.n : Nat)) := fun W => (ZN.out.below (hCC _ _ h1 W.below)).cell 0 rfl; go_big_quiet_op; first | exact hK | fail))
        (refine wpAnyG_take (i := 2) hCC hC0 rfl (by kernel_rfl) (by kernel_rfl) (by kernel_rfl) (fun _ _ _ _ h => h) (by rfl) ?_; apply Exists.intro; refine ⟨fun w1 h1 K hK => ?_, ?_⟩; · ( go_big_quiet_op; first | exact hK | fail))
        (refine wpAnyG_take (i := 3) hCC hC0 rfl (by kernel_rfl) (by kernel_rfl) (by kernel_rfl) (fun _ _ _ _ h => h) (by rfl) ?_; apply Exists.intro; refine ⟨fun w1 h1 K hK => ?_, ?_⟩; · (have g0 : ∀ W : Aft w1, W.val.cell? ⟨w.heap.size, 1, none⟩ = some (.int .i64 t.leaks) := fun W => (I4.out.on (hCC _ _ h1 W.below)).h4.cell 1 rfl; go_big_quiet_op; first | exact hK | fail))
        (refine wpAnyG_take (i := 4) hCC hC0 rfl (by kernel_rfl) (by kernel_rfl) (by kernel_rfl) (fun _ _ _ _ h => h) (by rfl) ?_; apply Exists.intro; refine ⟨fun w1 h1 K hK => ?_, ?_⟩; · ( go_big_quiet_op; first | exact hK | fail))
        (refine wpAnyG_take (i := 5) hCC hC0 rfl (by kernel_rfl) (by kernel_rfl) (by kernel_rfl) (fun _ _ _ _ h => h) (by rfl) ?_; apply Exists.intro; refine ⟨fun w1 h1 K hK => ?_, ?_⟩; · (have g0 : ∀ W : Aft w1, W.val.cell? ⟨w.heap.size, 2, none⟩ = some (.int .i64 t.least) := fun W => (I4.out.on (hCC _ _ h1 W.below)).h4.cell 2 rfl; go_big_quiet_op; first | exact hK | fail))
        (refine wpAnyG_two (i := 1) (k := 7) (by kernel_rfl) rfl rfl (by rfl) (by rfl) (fun wa hwa K hK => ?_) (fun wa hwa K hK => ?_))
        · refine wp_make rfl rfl (by omega) ?_
          go_simp
          have hA := (hCC _ _ hC0 hwa).trans ((below_alloc1 wa (.cells (madeCells #[.int .i64 0, .int .i64 0] (t.n * 2)) 37)).mono (hCC _ _ hC0 hwa).size)
          refine hK _ _ hA ?_
          clear hK K
          have zU := Box.new (g := wa.heap.size) (madeCells #[.int .i64 0, .int .i64 0] (t.n * 2)) 37 wa rfl
          have lU := (hCC _ _ hC0 hwa).size
          clear hwa hC0
          have hC0 := hA
          clear hA
          (refine wpAnyG_take (i := 6) hCC hC0 rfl (by kernel_rfl) (by kernel_rfl) (by kernel_rfl) (fun _ _ _ _ h => h) (by rfl) ?_; apply Exists.intro; refine ⟨fun w1 h1 K hK => ?_, ?_⟩; · ( go_big_quiet_op; first | exact hK | fail))
          (refine wpAnyG_one (i := 7) (by kernel_rfl) rfl (by rfl) (fun wb hwb K hK => ?_))
          go_simp
          have hB := (hCC _ _ hC0 hwb).trans ((below_alloc1 wb (.cells #[.slice none 0 0, .int .i64 0, .int .i64 0, .slice none 0 0] 25)).mono (hCC _ _ hC0 hwb).size)
          refine hK _ _ hB ?_
          clear hK K
          have zX := Box.new (g := wb.heap.size) #[.slice none 0 0, .int .i64 0, .int .i64 0, .slice none 0 0] 25 wb rfl
          have lX := (hCC _ _ hC0 hwb).size
          have zU2 := (zU.below hwb).old (.cells #[.slice none 0 0, .int .i64 0, .int .i64 0, .slice none 0 0] 25)
          have nXU := own_ne8 zU2 zX (by decide)
          (refine wpAnyG_one (i := 8) (by kernel_rfl) rfl (by rfl) (fun wc hwc K hK => ?_))
          have hBc := hCC _ _ hB hwc
          refine wp_store_box (zX.below hwc) rfl rfl rfl rfl (by kernel_rfl) (by simp [Value.oneCell']) (fun wd s8 ho => ?_); dsimp only [Act.put]
          have hBd : Below X4.heap.size X4 wd := hBc.trans (ho.below (by omega))
          refine hK _ _ hBd ?_
          clear hK K
          have zU3 := ho.box (zU2.below hwc) nXU
          refine wpAnyG_done (by kernel_rfl) (fun wz hwz => ?_) _
          have hBz := hCC _ _ hBd hwz
          have s9 := s8.below hwz
          have zU4 := zU3.below hwz
          go_wp2_with fail
          go_meet
          exact ⟨hBz, _, _, rfl, by omega, by omega, s9, zU4⟩
        · go_simp
          have hB := (hCC _ _ hC0 hwa).trans ((below_alloc1 wa (.cells #[.slice none 0 0, .int .i64 0, .int .i64 0, .slice none 0 0] 25)).mono (hCC _ _ hC0 hwa).size)
          refine hK _ _ hB ?_
          clear hK K
          have zX0 := Box.new (g := wa.heap.size) #[.slice none 0 0, .int .i64 0, .int .i64 0, .slice none 0 0] 25 wa rfl
          have lX := (hCC _ _ hC0 hwa).size
          clear hC0
          have hC0 := hB
          (refine wpAnyG_one (i := 1) (by kernel_rfl) rfl (by rfl) (fun wb hwb K hK => ?_))
          refine wp_make rfl rfl (by omega) ?_
          go_simp
          have hA := (hCC _ _ hC0 hwb).trans ((below_alloc1 wb (.cells (madeCells #[.int .i64 0, .int .i64 0] (t.n * 2)) 37)).mono (hCC _ _ hC0 hwb).size)
          refine hK _ _ hA ?_
          clear hK K hB
          have zU2 := Box.new (g := wb.heap.size) (madeCells #[.int .i64 0, .int .i64 0] (t.n * 2)) 37 wb rfl
          have lU := (hCC _ _ hC0 hwb).size
          have zX := (zX0.below hwb).old (.cells (madeCells #[.int .i64 0, .int .i64 0] (t.n * 2)) 37)
          clear hC0
          have hC0 := hA
          (refine wpAnyG_take (i := 6) hCC hC0 rfl (by kernel_rfl) (by kernel_rfl) (by kernel_rfl) (fun _ _ _ _ h => h) (by rfl) ?_; apply Exists.intro; refine ⟨fun w1 h1 K hK => ?_, ?_⟩; · ( go_big_quiet_op; first | exact hK | fail))
          have hB := hC0
          have nXU := own_ne8 zU2 zX (by decide)
          (refine wpAnyG_one (i := 8) (by kernel_rfl) rfl (by rfl) (fun wc hwc K hK => ?_))
          have hBc := hCC _ _ hB hwc
          refine wp_store_box (zX.below hwc) rfl rfl rfl rfl (by kernel_rfl) (by simp [Value.oneCell']) (fun wd s8 ho => ?_); dsimp only [Act.put]
          have hBd : Below X4.heap.size X4 wd := hBc.trans (ho.below (by omega))
          refine hK _ _ hBd ?_
          clear hK K
          have zU3 := ho.box (zU2.below hwc) nXU
          refine wpAnyG_done (by kernel_rfl) (fun wz hwz => ?_) _
          have hBz := hCC _ _ hBd hwz
          have s9 := s8.below hwz
          have zU4 := zU3.below hwz
          go_wp2_with fail
          go_meet
          exact ⟨hBz, _, _, rfl, by omega, by omega, s9, zU4⟩
      case rest =>
        obtain ⟨hbc, gX, gU, rfl, lX, lU, zX, zU⟩ := hcut
        have hX4 := I4.out.h7.lt
        have nXn : gX ≠ gn := by have := ZN.out.lt; omega
        have nUn : gU ≠ gn := by have := ZN.out.lt; omega
        have nUX : gU ≠ gX := own_ne8 zU zX (by decide)
        have gX2 : w.heap.size + 2 ≤ gX := by omega
        have gU2 : w.heap.size + 2 ≤ gU := by omega
        have HO0 := Lib.hid (show O8 t oa ca ob cb k gn gX gU (.slice none 0 0) (madeCells #[.int .i64 0, .int .i64 0] (t.n * 2)) w wc from ⟨I4.out.on hbc, ZN.out.below hbc, zX, zU⟩)
        clear hbc zX zU lX lU hX4
        have hsz0 := size_madeCells #[Value.int .i64 0, .int .i64 0] (t.n * 2)
        obtain ⟨cur0, hcur0⟩ : ∃ c, c = madeCells #[Value.int .i64 0, .int .i64 0] (t.n * 2) := ⟨_, rfl⟩
        rw [← hcur0] at HO0 hsz0
        clear hcur0
        go_wp2_with fail
        go_loopw [15] (fun v15 wr => ∃ (i : Nat) (cur : Array Value), i ≤ t.n ∧ v15 = .int .i64 (i : Nat) ∧ cur.size = t.n * 2 ∧ (∀ c, c < i → cur[rot t.n k c * 2]? = some (.int .i64 (t.u c).lo) ∧ cur[rot t.n k c * 2 + 1]? = some (.int .i64 (t.u c).hi)) ∧ O8 t oa ca ob cb k gn gX gU (.slice none 0 0) cur w wr) (fun v15 _ => t.n - (intOf v15).toNat)
        case atStart => exact ⟨0, cur0, Nat.zero_le _, rfl, hsz0, (fun c hc => by omega), HO0.out⟩
        case round =>
          obtain ⟨i, cur, hi, rfl, hsz, hcs, hO⟩ := hrel
          have HO := Lib.hid hO
          have HCS := Lib.hid hcs
          have HSZ := Lib.hid hsz
          clear hO hcs hsz HO0 hsz0 I4 ZN
          have n2 := HO.out.hn.cell 0 (v := .int .i64 (t.n : Nat)) rfl
          have n3 := HO.out.hn.lt
          by_cases hin : i < t.n
          · have d3 : decide (i < t.n) = true := decide_eq_true hin
            have d4 : decide ((i : Int) < (t.n : Int)) = true := decide_eq_true (by omega)
            go_wp2_with fail
            obtain ⟨r, hr⟩ : ∃ r, r = rot t.n k i := ⟨_, rfl⟩
            have hr2 : r < t.n := by rw [hr]; exact rot_lt (by omega) _ _
            have hr3 : r = (i + k) % t.n := hr
            have HR := Lib.hid hr
            clear hr d3 d4 n2 n3
            have hmk : ((i : Int) + (k : Int)) % (t.n : Int) = (r : Int) := by rw [hr3]; simp
            have hmk2 : ((i : Int) + (k : Int)).tmod (t.n : Int) = (r : Int) := by rw [Int.tmod_eq_emod_of_nonneg (by omega)]; exact hmk
            clear hr3
            have hn0 : (t.n : Int) ≠ 0 := by omega
            obtain ⟨bu, ou, hoa, lu, u0, u1⟩ := HM.out.u i hin
            have hoa9 := hoa
            subst hoa
            have hi0 : (0 : Int) ≤ (i : Int) := by omega
            have hi1 : (i : Int) < (t.n : Int) := by omega
            have hj0 : (0 : Int) ≤ (r : Int) := by omega
            have hj1 : (r : Int) < (t.n : Int) := by omega
            have hCC : ∀ A B : World, (∃ cur, O8 t (some ⟨bu, ou, none⟩) ca ob cb k gn gX gU (.slice none 0 0) cur w A) → Below A.heap.size A B → (∃ cur, O8 t (some ⟨bu, ou, none⟩) ca ob cb k gn gX gU (.slice none 0 0) cur w B) := fun A B ⟨cs, h1⟩ h2 => ⟨cs, h1.on h2⟩
            have hC0 : ∃ cur, O8 t (some ⟨bu, ou, none⟩) ca ob cb k gn gX gU (.slice none 0 0) cur w wr.drew := ⟨_, HO.out.on (Below.refl _ _).drew⟩
            refine wp_region_garb (fun A => ∃ cur, O8 t (some ⟨bu, ou, none⟩) ca ob cb k gn gX gU (.slice none 0 0) cur w A) (by kernel_rfl) ?_
            (refine wpAnyG_take (i := 0) hCC hC0 rfl (by kernel_rfl) (by kernel_rfl) (by kernel_rfl) (fun _ _ _ _ h => h) (by rfl) ?_; apply Exists.intro; refine ⟨fun w1 h1 K hK => ?_, ?_⟩; · ( go_big_quiet_op; first | exact hK | fail))
            (refine wpAnyG_take (i := 1) hCC hC0 rfl (by kernel_rfl) (by kernel_rfl) (by kernel_rfl) (fun _ _ _ _ h => h) (by rfl) ?_; apply Exists.intro; refine ⟨fun w1 h1 K hK => ?_, ?_⟩; · (have g0 : ∀ W : Aft w1, W.val.cell? ⟨gX, 0, none⟩ = some (.slice (some ⟨gU, 0, none⟩) t.n t.n) := fun W => (by obtain ⟨cs, h9⟩ := hCC _ _ h1 W.below; exact h9.hX.cell 0 rfl); go_big_quiet_op; first | exact hK | fail))
            (refine wpAnyG_take (i := 2) hCC hC0 rfl (by kernel_rfl) (by kernel_rfl) (by kernel_rfl) (fun _ _ _ _ h => h) (by rfl) ?_; apply Exists.intro; refine ⟨fun w1 h1 K hK => ?_, ?_⟩; · ( go_big_quiet_op; first | exact hK | fail))
            (refine wpAnyG_take (i := 3) hCC hC0 rfl (by kernel_rfl) (by kernel_rfl) (by kernel_rfl) (fun _ _ _ _ h => h) (by rfl) ?_; apply Exists.intro; refine ⟨fun w1 h1 K hK => ?_, ?_⟩; · (have g0 : ∀ W : Aft w1, W.val.cell? ⟨w.heap.size + 1, 0, none⟩ = some (.int .u8 (k : Nat)) := fun W => (by obtain ⟨cs, h9⟩ := hCC _ _ h1 W.below; exact h9.e.h7.cell 0 rfl); go_big_quiet_op; first | exact hK | fail))
            (refine wpAnyG_take (i := 4) hCC hC0 rfl (by kernel_rfl) (by kernel_rfl) (by kernel_rfl) (fun _ _ _ _ h => h) (by rfl) ?_; apply Exists.intro; refine ⟨fun w1 h1 K hK => ?_, ?_⟩; · ( go_big_quiet_op; first | exact hK | fail))
            (refine wpAnyG_take (i := 5) hCC hC0 rfl (by kernel_rfl) (by kernel_rfl) (by kernel_rfl) (fun _ _ _ _ h => h) (by rfl) ?_; apply Exists.intro; refine ⟨fun w1 h1 K hK => ?_, ?_⟩; · ( go_big_quiet_op; first | exact hK | fail))
            (refine wpAnyG_take (i := 6) hCC hC0 rfl (by kernel_rfl) (by kernel_rfl) (by kernel_rfl) (fun _ _ _ _ h => h) (by rfl) ?_; apply Exists.intro; refine ⟨fun w1 h1 K hK => ?_, ?_⟩; · (have g0 : ∀ W : Aft w1, W.val.cell? ⟨gn, 0, none⟩ = some (.int .i64 (t.n : Nat)) := fun W => (by obtain ⟨cs, h9⟩ := hCC _ _ h1 W.below; exact h9.hn.cell 0 rfl); go_big_quiet_op; first | exact hK | fail))
            (refine wpAnyG_take (i := 7) hCC hC0 rfl (by kernel_rfl) (by kernel_rfl) (by kernel_rfl) (fun _ _ _ _ h => h) (by rfl) ?_; apply Exists.intro; refine ⟨fun w1 h1 K hK => ?_, ?_⟩; · ( go_big_quiet_op; first | exact hK | fail))
            (refine wpAnyG_take (i := 8) hCC hC0 rfl (by kernel_rfl) (by kernel_rfl) (by kernel_rfl) (fun _ _ _ _ h => h) (by rfl) ?_; apply Exists.intro; refine ⟨fun w1 h1 K hK => ?_, ?_⟩; · ( go_big_quiet_op; first | exact hK | fail))
            (refine wpAnyG_take (i := 9) hCC hC0 rfl (by kernel_rfl) (by kernel_rfl) (by kernel_rfl) (fun _ _ _ _ h => h) (by rfl) ?_; apply Exists.intro; refine ⟨fun w1 h1 K hK => ?_, ?_⟩; · (have g0 : ∀ W : Aft w1, W.val.cell? ⟨w.heap.size, 0, none⟩ = some (.slice (some ⟨bu, ou, none⟩) t.n ca) := fun W => (by obtain ⟨cs, h9⟩ := hCC _ _ h1 W.below; exact h9.e.h4.cell 0 rfl); go_big_quiet_op; first | exact hK | fail))
            (refine wpAnyG_take (i := 10) hCC hC0 rfl (by kernel_rfl) (by kernel_rfl) (by kernel_rfl) (fun _ _ _ _ h => h) (by rfl) ?_; apply Exists.intro; refine ⟨fun w1 h1 K hK => ?_, ?_⟩; · ( go_big_quiet_op; first | exact hK | fail))
            (refine wpAnyG_take (i := 11) hCC hC0 rfl (by kernel_rfl) (by kernel_rfl) (by kernel_rfl) (fun _ _ _ _ h => h) (by rfl) ?_; apply Exists.intro; refine ⟨fun w1 h1 K hK => ?_, ?_⟩; · ( go_big_quiet_op; first | exact hK | fail))
            (refine wpAnyG_take (i := 12) hCC hC0 rfl (by kernel_rfl) (by kernel_rfl) (by kernel_rfl) (fun _ _ _ _ h => h) (by rfl) ?_; apply Exists.intro; refine ⟨fun w1 h1 K hK => ?_, ?_⟩; · (have g0 : ∀ W : Aft w1, W.val.cell? ⟨bu, ou + i * 2, none⟩ = some (.int .i64 (t.u i).lo) := fun W => (by obtain ⟨cs, h9⟩ := hCC _ _ h1 W.below; exact (h9.e.low.cell (p := ⟨bu, ou + i * 2, none⟩) lu).trans u0);have g1 : ∀ W : Aft w1, W.val.cell? ⟨bu, ou + i * 2 + 1, none⟩ = some (.int .i64 (t.u i).hi) := fun W => (by obtain ⟨cs, h9⟩ := hCC _ _ h1 W.below; exact (h9.e.low.cell (p := ⟨bu, ou + i * 2 + 1, none⟩) lu).trans u1); go_big_quiet_op; first | exact hK | fail))
            (refine wpAnyG_one (i := 13) (by kernel_rfl) rfl (by rfl) (fun wa hwa K hK => ?_))
            go_simp
            refine hK _ _ (hCC _ _ hC0 hwa) ?_
            clear hK K
            have hTb := (HO.out.on (Below.refl _ _).drew).on hwa
            clear hwa hC0
            (refine wpAnyG_one (i := 14) (by kernel_rfl) rfl (by rfl) (fun wb hwb K hK => ?_))
            have hTc := hTb.on hwb
            refine wp_store_at hTc.hU rfl rfl rfl (by have := HSZ.out; simp; omega) (by kernel_rfl) (by simp [Value.oneCell']) (fun wf zf ho => ?_); dsimp only [Act.put]
            have hTf : O8 t (some ⟨bu, ou, none⟩) ca ob cb k gn gX gU (.slice none 0 0) ((cur.setIfInBounds (r * 2) (.int .i64 (t.u i).lo)).setIfInBounds (r * 2 + 1) (.int .i64 (t.u i).hi)) w wf := ⟨⟨hTc.e.low.trans (ho.below (by omega)), ho.box hTc.e.h4 (by omega), ho.box hTc.e.h7 (by omega)⟩, ho.box hTc.hn (Ne.symm nUn), ho.box hTc.hX (Ne.symm nUX), zf⟩
            refine hK _ _ ⟨_, hTf⟩ ?_
            clear hK K
            refine wpAnyG_done (by kernel_rfl) (fun wz hwz => ?_) _
            have HTz := Lib.hid (hTf.on hwz)
            clear hTf hTc hTb hwz hwb ho zf hCC
            go_wp2_with fail
            go_roundw
            case rel => exact ⟨i + 1, _, by omega, by go_num, (by simp [HSZ.out]), (by have := uses_put (k := k) (u := t.u) hin HSZ.out HCS.out; rw [← HR.out] at this; exact this), HTz.out⟩
            case measure => simp [intOf]; omega
          · obtain hin9 : i = t.n := by omega
            subst hin9
            have d3 : decide (t.n < t.n) = false := by simp
            have d4 : decide ((t.n : Int) < (t.n : Int)) = false := by simp
            go_wp2_with fail
            go_loopw [16] (fun v16 wr => ∃ (i : Nat) (ss : Value), i ≤ t.m ∧ v16 = .int .i64 (i : Nat) ∧ wr.ownsRow w.heap.size 49 3 ss i (stpNews i (t.turn k).s) ∧ O8 t oa ca ob cb k gn gX gU ss cur w wr) (fun v16 _ => t.m - (intOf v16).toNat)
            case atStart => exact ⟨0, _, Nat.zero_le _, rfl, owns_none, HO.out⟩
            case round =>
              obtain ⟨i, ss, hi2, rfl, hown, hO⟩ := hrel
              have HO5 := Lib.hid hO
              have HW5 := Lib.hid hown
              clear hO hown HO n2 n3 d3 d4
              obtain ⟨c0, c1, c2, c3, c4⟩ := TB.cells HO5.out.e.h4
              by_cases him : i < t.m
              · have d3 : decide (i < t.m) = true := decide_eq_true him
                have d4 : decide ((i : Int) < (t.m : Int)) = true := decide_eq_true (by omega)
                go_wp2_with fail
                obtain ⟨r, hr⟩ : ∃ r, r = rot t.m k i := ⟨_, rfl⟩
                have hr2 : r < t.m := by rw [hr]; exact rot_lt (by omega) _ _
                have hr3 : r = (i + k) % t.m := hr
                have e49 : (t.turn k).s i = ⟨((turnN t.n k (t.s r).shut.toNat : Nat) : Int), (t.s r).flow⟩ := by rw [hr]; rfl
                have HE49 := Lib.hid e49
                clear hr e49 d3 d4 c0 c1 c2 c3 c4
                have hmk : ((i : Int) + (k : Int)) % (t.m : Int) = (r : Int) := by rw [hr3]; simp
                have hmk2 : ((i : Int) + (k : Int)).tmod (t.m : Int) = (r : Int) := by rw [Int.tmod_eq_emod_of_nonneg (by omega)]; exact hmk
                clear hr3
                have hm0 : (t.m : Int) ≠ 0 := by omega
                obtain ⟨bs, os, rfl, ls, u0, u1, u2⟩ := HM.out.s r hr2
                have hj0 : (0 : Int) ≤ (r : Int) := by omega
                have hj1 : (r : Int) < (t.m : Int) := by omega
                have hk9 := Tst.ok HVD.out
                have hs0 := hk9.s0 r hr2
                have hs1 := hk9.s1 r hr2
                obtain ⟨x, hx⟩ : ∃ x : Nat, (t.s r).shut = (x : Int) := ⟨(t.s r).shut.toNat, by omega⟩
                rw [hx] at hs1 u0 HE49
                rw [Int.toNat_natCast] at hs1 HE49
                have HX9 := Lib.hid hx
                have HTZ := Lib.hid (turnZ_nat (k := k) hs1)
                clear hk9 hs0 hx
                have hCC : ∀ A B : World, O8 t oa ca (some ⟨bs, os, none⟩) cb k gn gX gU ss cur w A → Below A.heap.size A B → O8 t oa ca (some ⟨bs, os, none⟩) cb k gn gX gU ss cur w B := fun A B h1 h2 => h1.on h2
                have hC0 := HO5.out.on (Below.refl _ _).drew
                refine wp_region_garb (O8 t oa ca (some ⟨bs, os, none⟩) cb k gn gX gU ss cur w) (by kernel_rfl) ?_
                (refine wpAnyG_take (i := 0) hCC hC0 rfl (by kernel_rfl) (by kernel_rfl) (by kernel_rfl) (fun _ _ _ _ h => h) (by rfl) ?_; apply Exists.intro; refine ⟨fun w1 h1 K hK => ?_, ?_⟩; · ( go_big_quiet_op; first | exact hK | fail))
                (refine wpAnyG_take (i := 1) hCC hC0 rfl (by kernel_rfl) (by kernel_rfl) (by kernel_rfl) (fun _ _ _ _ h => h) (by rfl) ?_; apply Exists.intro; refine ⟨fun w1 h1 K hK => ?_, ?_⟩; · (have g0 : ∀ W : Aft w1, W.val.cell? ⟨w.heap.size, 3, none⟩ = some (.slice (some ⟨bs, os, none⟩) t.m cb) := fun W => (h1.on W.below).e.h4.cell 3 rfl; go_big_quiet_op; first | exact hK | fail))
                (refine wpAnyG_take (i := 2) hCC hC0 rfl (by kernel_rfl) (by kernel_rfl) (by kernel_rfl) (fun _ _ _ _ h => h) (by rfl) ?_; apply Exists.intro; refine ⟨fun w1 h1 K hK => ?_, ?_⟩; · ( go_big_quiet_op; first | exact hK | fail))
                (refine wpAnyG_take (i := 3) hCC hC0 rfl (by kernel_rfl) (by kernel_rfl) (by kernel_rfl) (fun _ _ _ _ h => h) (by rfl) ?_; apply Exists.intro; refine ⟨fun w1 h1 K hK => ?_, ?_⟩; · (have g0 : ∀ W : Aft w1, W.val.cell? ⟨w.heap.size + 1, 0, none⟩ = some (.int .u8 (k : Nat)) := fun W => (h1.on W.below).e.h7.cell 0 rfl; go_big_quiet_op; first | exact hK | fail))
                (refine wpAnyG_take (i := 4) hCC hC0 rfl (by kernel_rfl) (by kernel_rfl) (by kernel_rfl) (fun _ _ _ _ h => h) (by rfl) ?_; apply Exists.intro; refine ⟨fun w1 h1 K hK => ?_, ?_⟩; · ( go_big_quiet_op; first | exact hK | fail))
                (refine wpAnyG_take (i := 5) hCC hC0 rfl (by kernel_rfl) (by kernel_rfl) (by kernel_rfl) (fun _ _ _ _ h => h) (by rfl) ?_; apply Exists.intro; refine ⟨fun w1 h1 K hK => ?_, ?_⟩; · ( go_big_quiet_op; first | exact hK | fail))
                (refine wpAnyG_take (i := 6) hCC hC0 rfl (by kernel_rfl) (by kernel_rfl) (by kernel_rfl) (fun _ _ _ _ h => h) (by rfl) ?_; apply Exists.intro; refine ⟨fun w1 h1 K hK => ?_, ?_⟩; · ( go_big_quiet_op; first | exact hK | fail))
                (refine wpAnyG_take (i := 7) hCC hC0 rfl (by kernel_rfl) (by kernel_rfl) (by kernel_rfl) (fun _ _ _ _ h => h) (by rfl) ?_; apply Exists.intro; refine ⟨fun w1 h1 K hK => ?_, ?_⟩; · (have g0 : ∀ W : Aft w1, W.val.cell? ⟨w.heap.size, 3, none⟩ = some (.slice (some ⟨bs, os, none⟩) t.m cb) := fun W => (h1.on W.below).e.h4.cell 3 rfl; go_big_quiet_op; first | exact hK | fail))
                (refine wpAnyG_take (i := 8) hCC hC0 rfl (by kernel_rfl) (by kernel_rfl) (by kernel_rfl) (fun _ _ _ _ h => h) (by rfl) ?_; apply Exists.intro; refine ⟨fun w1 h1 K hK => ?_, ?_⟩; · ( go_big_quiet_op; first | exact hK | fail))
                (refine wpAnyG_take (i := 9) hCC hC0 rfl (by kernel_rfl) (by kernel_rfl) (by kernel_rfl) (fun _ _ _ _ h => h) (by rfl) ?_; apply Exists.intro; refine ⟨fun w1 h1 K hK => ?_, ?_⟩; · ( go_big_quiet_op; first | exact hK | fail))
                (refine wpAnyG_take (i := 10) hCC hC0 rfl (by kernel_rfl) (by kernel_rfl) (by kernel_rfl) (fun _ _ _ _ h => h) (by rfl) ?_; apply Exists.intro; refine ⟨fun w1 h1 K hK => ?_, ?_⟩; · ( go_big_quiet_op; first | exact hK | fail))
                (refine wpAnyG_take (i := 11) hCC hC0 rfl (by kernel_rfl) (by kernel_rfl) (by kernel_rfl) (fun _ _ _ _ h => h) (by rfl) ?_; apply Exists.intro; refine ⟨fun w1 h1 K hK => ?_, ?_⟩; · (have g0 : ∀ W : Aft w1, W.val.cell? ⟨bs, os + r * 3, none⟩ = some (.int .i64 (x : Nat)) := fun W => ((h1.on W.below).e.low.cell (p := ⟨bs, os + r * 3, none⟩) ls).trans u0;have g1 : ∀ W : Aft w1, W.val.cell? ⟨bs, os + r * 3 + 1, none⟩ = some (.int .i64 (t.s r).flow.lo) := fun W => ((h1.on W.below).e.low.cell (p := ⟨bs, os + r * 3 + 1, none⟩) ls).trans u1;have g2 : ∀ W : Aft w1, W.val.cell? ⟨bs, os + r * 3 + 2, none⟩ = some (.int .i64 (t.s r).flow.hi) := fun W => ((h1.on W.below).e.low.cell (p := ⟨bs, os + r * 3 + 1 + 1, none⟩) ls).trans u2; go_big_quiet_op; first | exact hK | fail))
                (refine wpAnyG_one (i := 12) (by kernel_rfl) rfl (by rfl) (fun wa hwa K hK => ?_))
                go_simp
                have hA0 := (hCC _ _ hC0 hwa).on (below_alloc1 wa (.cells #[.int .i64 0, .int .i64 0, .int .i64 0] 49))
                refine hK _ _ hA0 ?_
                clear hK K
                have hOa := (owns_below (owns_below HW5.out ((Below.refl wr.heap.size wr).drew)) hwa)
                have hOb := owns_below hOa (below_alloc1 wa (.cells #[.int .i64 0, .int .i64 0, .int .i64 0] 49))
                have zP := Box.new (g := wa.heap.size) #[.int .i64 0, .int .i64 0, .int .i64 0] 49 wa rfl
                have hPO := own_lt8 hOa
                have lP : w.heap.size + 2 ≤ wa.heap.size := by have := (hCC _ _ hC0 hwa).e.h7.lt; omega
                clear hwa hC0 hOa
                obtain ⟨gP, hG⟩ : ∃ G, G = wa.heap.size := ⟨_, rfl⟩
                obtain ⟨wA, hWA⟩ : ∃ X, X = wa.alloc (.cells #[.int .i64 0, .int .i64 0, .int .i64 0] 49) := ⟨_, rfl⟩
                rw [← hWA] at hA0 hOb zP ⊢
                rw [← hG] at zP hPO lP ⊢
                clear hG hWA
                have nPn := own_ne8 zP hA0.hn (by decide)
                have nPX := own_ne8 zP hA0.hX (by decide)
                have nPU := own_ne8 zP hA0.hU (by decide)
                (refine wpAnyG_one (i := 13) (by kernel_rfl) rfl (by rfl) (fun wb hwb K hK => ?_))
                have hTb := hA0.on hwb
                refine wp_store_box (zP.below hwb) rfl rfl rfl rfl (by kernel_rfl) (by simp [Value.oneCell']) (fun wd s8 ho => ?_); dsimp only [Act.put]
                have hTd : O8 t oa ca (some ⟨bs, os, none⟩) cb k gn gX gU ss cur w wd := ⟨⟨hTb.e.low.trans (ho.below (by omega)), ho.box hTb.e.h4 (by omega), ho.box hTb.e.h7 (by omega)⟩, ho.box hTb.hn (Ne.symm nPn), ho.box hTb.hX (Ne.symm nPX), ho.box hTb.hU (Ne.symm nPU)⟩
                have hOd := owns_but (owns_below hOb hwb) ho.but (fun b hb e9 => by have := hPO b hb; omega)
                refine hK _ _ hTd ?_
                clear hK K
                refine wpAnyG_done (by kernel_rfl) (fun wz hwz => ?_) _
                have HO6 := Lib.hid (hTd.on hwz)
                have HW6 := Lib.hid (owns_below hOd hwz)
                have HP6 := Lib.hid (s8.below hwz)
                clear hTd hOd s8 ho hTb hwb hwz hA0 hOb zP hCC HO5 HW5 u0 u1 u2 hmk hmk2 hj0 hj1
                go_wp2_with fail
                obtain ⟨oS, cS, rfl, -⟩ := owns_form HW6.out
                have hP0 : ∀ A B : World, (O8 t oa ca (some ⟨bs, os, none⟩) cb k gn gX gU (.slice oS i cS) cur w A ∧ Box gP #[.int .i64 (x : Nat), .int .i64 (t.s r).flow.lo, .int .i64 (t.s r).flow.hi] 49 A) → Below A.heap.size A B → (O8 t oa ca (some ⟨bs, os, none⟩) cb k gn gX gU (.slice oS i cS) cur w B ∧ Box gP #[.int .i64 (x : Nat), .int .i64 (t.s r).flow.lo, .int .i64 (t.s r).flow.hi] 49 B) := fun A B h1 h2 => ⟨h1.1.on h2, h1.2.below h2⟩
                have hP1 : ∀ A B : World, True → Below A.heap.size A B → True := fun _ _ _ _ => trivial
                obtain ⟨wr2, hwr2⟩ : ∃ W, W = wz := ⟨_, rfl⟩
                have hC0 : O8 t oa ca (some ⟨bs, os, none⟩) cb k gn gX gU (.slice oS i cS) cur w wz.drew ∧ Box gP #[.int .i64 (x : Nat), .int .i64 (t.s r).flow.lo, .int .i64 (t.s r).flow.hi] 49 wz.drew := ⟨HO6.out.on (Below.refl _ _).drew, HP6.out.drew⟩
                clear hwr2 wr2
                refine wp_region_phase 12 (fun A => O8 t oa ca (some ⟨bs, os, none⟩) cb k gn gX gU (.slice oS i cS) cur w A ∧ Box gP #[.int .i64 (x : Nat), .int .i64 (t.s r).flow.lo, .int .i64 (t.s r).flow.hi] 49 A) (fun _ => True) (by kernel_rfl) ?_
                (refine wpAnyP_take0 (i := 0) hP0 hP1 hC0 (by decide) (by rfl) rfl (by kernel_rfl) rfl (by kernel_rfl) (by kernel_rfl) (by kernel_rfl) (fun _ _ _ _ h => h) (by rfl) ?_; apply Exists.intro; refine ⟨fun w1 h1 K hK => ?_, ?_⟩; · ( go_big_quiet_op; first | exact hK | fail))
                (refine wpAnyP_take0 (i := 1) hP0 hP1 hC0 (by decide) (by rfl) rfl (by kernel_rfl) rfl (by kernel_rfl) (by kernel_rfl) (by kernel_rfl) (fun _ _ _ _ h => h) (by rfl) ?_; apply Exists.intro; refine ⟨fun w1 h1 K hK => ?_, ?_⟩; · (have g0 : ∀ W : Aft w1, W.val.cell? ⟨gX, 3, none⟩ = some (.slice oS i cS) := fun W => (hP0 _ _ h1 W.below).1.hX.cell 3 rfl; go_big_quiet_op; first | exact hK | fail))
                (refine wpAnyP_take0 (i := 2) hP0 hP1 hC0 (by decide) (by rfl) rfl (by kernel_rfl) rfl (by kernel_rfl) (by kernel_rfl) (by kernel_rfl) (fun _ _ _ _ h => h) (by rfl) ?_; apply Exists.intro; refine ⟨fun w1 h1 K hK => ?_, ?_⟩; · ( go_big_quiet_op; first | exact hK | fail))
                (refine wpAnyP_take0 (i := 3) hP0 hP1 hC0 (by decide) (by rfl) rfl (by kernel_rfl) rfl (by kernel_rfl) (by kernel_rfl) (by kernel_rfl) (fun _ _ _ _ h => h) (by rfl) ?_; apply Exists.intro; refine ⟨fun w1 h1 K hK => ?_, ?_⟩; · ( go_big_quiet_op; first | exact hK | fail))
                (refine wpAnyP_take0 (i := 4) hP0 hP1 hC0 (by decide) (by rfl) rfl (by kernel_rfl) rfl (by kernel_rfl) (by kernel_rfl) (by kernel_rfl) (fun _ _ _ _ h => h) (by rfl) ?_; apply Exists.intro; refine ⟨fun w1 h1 K hK => ?_, ?_⟩; · (have g0 : ∀ W : Aft w1, W.val.cell? ⟨gP, 0, none⟩ = some (.int .i64 (x : Nat)) := fun W => (hP0 _ _ h1 W.below).2.cell 0 rfl; go_big_quiet_op; first | exact hK | fail))
                (refine wpAnyP_take0 (i := 5) hP0 hP1 hC0 (by decide) (by rfl) rfl (by kernel_rfl) rfl (by kernel_rfl) (by kernel_rfl) (by kernel_rfl) (fun _ _ _ _ h => h) (by rfl) ?_; apply Exists.intro; refine ⟨fun w1 h1 K hK => ?_, ?_⟩; · (have HT9 := Lib.hid (fun W : Aft w1 => turned_any (x : Nat) gn (w.heap.size + 1) t.n k W.val hn1 hn2 hk (hP0 _ _ h1 W.below).1.hn (hP0 _ _ h1 W.below).1.e.h7); go_big_quiet_op; first | exact hK | exact ⟨_, fun W => aft_call (HT9.out W), hK⟩))
                rw [HTZ.out]
                (refine wpAnyP_take0 (i := 6) hP0 hP1 hC0 (by decide) (by rfl) rfl (by kernel_rfl) rfl (by kernel_rfl) (by kernel_rfl) (by kernel_rfl) (fun _ _ _ _ h => h) (by rfl) ?_; apply Exists.intro; refine ⟨fun w1 h1 K hK => ?_, ?_⟩; · ( go_big_quiet_op; first | exact hK | fail))
                (refine wpAnyP_take0 (i := 7) hP0 hP1 hC0 (by decide) (by rfl) rfl (by kernel_rfl) rfl (by kernel_rfl) (by kernel_rfl) (by kernel_rfl) (fun _ _ _ _ h => h) (by rfl) ?_; apply Exists.intro; refine ⟨fun w1 h1 K hK => ?_, ?_⟩; · (have g0 : ∀ W : Aft w1, W.val.cell? ⟨gP, 1, none⟩ = some (.int .i64 (t.s r).flow.lo) := fun W => (hP0 _ _ h1 W.below).2.cell 1 rfl;have g1 : ∀ W : Aft w1, W.val.cell? ⟨gP, 2, none⟩ = some (.int .i64 (t.s r).flow.hi) := fun W => (hP0 _ _ h1 W.below).2.cell 2 rfl; go_big_quiet_op; first | exact hK | fail))
                (refine wpAnyP_take0 (i := 8) hP0 hP1 hC0 (by decide) (by rfl) rfl (by kernel_rfl) rfl (by kernel_rfl) (by kernel_rfl) (by kernel_rfl) (fun _ _ _ _ h => h) (by rfl) ?_; apply Exists.intro; refine ⟨fun w1 h1 K hK => ?_, ?_⟩; · ( go_big_quiet_op; first | exact hK | fail))
                (refine wpAnyP_one (i := 9) (by kernel_rfl) rfl (by rfl) (fun wc hwc K hK => ?_))
                go_simp
                have hbc := hwc.trans ((below_alloc1 wc (.cells #[.int .i64 ((turnN t.n k x : Nat) : Int), .int .i64 (t.s r).flow.lo, .int .i64 (t.s r).flow.hi] 49)).mono hwc.size)
                have zN := Box.new (g := wc.heap.size) #[.int .i64 ((turnN t.n k x : Nat) : Int), .int .i64 (t.s r).flow.lo, .int .i64 (t.s r).flow.hi] 49 wc rfl
                refine hK _ _ (hP0 _ _ hC0 hbc) ?_
                clear hK K
                have hTc := (hP0 _ _ hC0 hbc).1
                have hPc := (hP0 _ _ hC0 hbc).2
                have hOc := owns_below (owns_below HW6.out ((Below.refl wz.heap.size wz).drew)) hbc
                clear hC0 hwc hbc
                obtain ⟨gN, hG9⟩ : ∃ g, g = wc.heap.size := ⟨_, rfl⟩
                obtain ⟨Y, hY9⟩ : ∃ X, X = wc.alloc (.cells #[.int .i64 ((turnN t.n k x : Nat) : Int), .int .i64 (t.s r).flow.lo, .int .i64 (t.s r).flow.hi] 49) := ⟨_, rfl⟩
                rw [← hG9] at zN ⊢
                rw [← hY9] at zN hTc hOc hPc ⊢
                clear hG9 hY9
                obtain ⟨iR, hiR, hzR0, hzR1, hzR2⟩ := info_parts (P := Tryd.prog) (e := 49) (z := .agg #[.int .i64 0, .int .i64 0, .int .i64 0]) (size := 3) (bytes := 24) (by kernel_rfl)
                (refine wpAnyP_one (i := 10) (by kernel_rfl) rfl (by rfl) (fun wd hwd K hK => ?_))
                have hTd := hTc.on hwd
                have hOd := owns_below hOc hwd
                have zNd := zN.below hwd
                refine wp_append_gen (.tmp 110) (.tmp 118) 23 rfl w.heap.size 49 iR _ 3 24 Tryd.underlying23 hiR hzR0 hzR1 hzR2 rfl (by omega) (.slice oS i cS) i (stpNews i (t.turn k).s) rfl hOd (some ⟨gN, 0, none⟩) 1 1 [.int .i64 ((turnN t.n k x : Nat) : Int), .int .i64 (t.s r).flow.lo, .int .i64 (t.s r).flow.hi] rfl (fun e9 => by cases e9) rfl (fun ad9 e9 j9 u9 hu9 => by cases e9; rw [add_flat, Nat.zero_add]; exact zNd.cell j9 (by rw [List.getElem?_toArray]; exact hu9)) (by simp [Value.oneCell']) (by simp only [maxLen]; omega) (by omega) hTd.e.low.size (fun vS wS hownS hgrowS => ?_)
                have hTs := hTd.grown hOd hgrowS
                have hPd := hPc.below hwd
                have hPs : Box gP #[.int .i64 (x : Nat), .int .i64 (t.s r).flow.lo, .int .i64 (t.s r).flow.hi] 49 wS := ⟨(hgrowS.block gP hPd.lt (fun e9 => absurd (hPO gP e9.symm) (Nat.lt_irrefl _))).trans hPd.row⟩
                clear hTc hOc hTd hOd zNd zN hwd iR hiR hzR0 hzR1 hzR2
                obtain ⟨oV, cV, rfl, -⟩ := owns_form hownS
                go_simp
                have hC9 : (O8 t oa ca (some ⟨bs, os, none⟩) cb k gn gX gU (.slice oS i cS) cur w wS ∧ Box gP #[.int .i64 (x : Nat), .int .i64 (t.s r).flow.lo, .int .i64 (t.s r).flow.hi] 49 wS) := ⟨hTs, hPs⟩
                refine hK _ _ hC9 ?_
                clear hK K
                (refine wpAnyP_one (i := 11) (by kernel_rfl) rfl (by rfl) (fun wx hwx K hK => ?_))
                go_simp
                refine hK _ _ (hP0 _ _ hC9 hwx) ?_
                clear hK K
                (refine wpAnyP_one (i := 12) (by kernel_rfl) rfl (by rfl) (fun we hwe K hK => ?_))
                have hTe := (hTs.on hwx).on hwe
                have hOe := owns_below (owns_below hownS hwx) hwe
                refine wp_store_slice hTe.hX rfl rfl rfl (by simp) (by kernel_rfl) (fun wf zf ho => ?_)
                dsimp only [Act.put]
                have hOf := owns_but hOe ho.but (own_ne hOe hTe.hX (by decide))
                have hTf : O8 t oa ca (some ⟨bs, os, none⟩) cb k gn gX gU (.slice oV (i + 1) cV) cur w wf := ⟨⟨hTe.e.low.trans (ho.below (by omega)), ho.box hTe.e.h4 (by omega), ho.box hTe.e.h7 (by omega)⟩, ho.box hTe.hn (Ne.symm nXn), zf, ho.box hTe.hU nUX⟩
                refine hK _ _ trivial ?_
                clear hK K
                refine wpAnyP_done (by kernel_rfl) (fun wy hwy => ?_) _
                have HTz := Lib.hid (hTf.on hwy)
                have HOz := Lib.hid (owns_below hOf hwy)
                clear hTf hOf hOe hTe hTs hPs hPd hPc hownS hgrowS hwy hwe hwx ho zf hP0 hP1 hC9
                go_wp2_with fail
                go_roundw
                case rel => exact ⟨i + 1, _, by omega, by go_num, (by rw [stpNews_succ, HE49.out]; exact HOz.out), HTz.out⟩
                case measure => simp [intOf]; omega
              · obtain him9 : i = t.m := by omega
                subst him9
                have d3 : decide (t.m < t.m) = false := by simp
                have d4 : decide ((t.m : Int) < (t.m : Int)) = false := by simp
                have HUX := Lib.hid (uses_spns (W := wr) HO5.out.hU HCS.out)
                obtain ⟨oS, cS, rfl, hSX⟩ := owns_stps HW5.out
                have HSX := Lib.hid hSX
                clear hSX HW5 HCS HSZ
                obtain ⟨X9, hX9⟩ : ∃ X, X = wr := ⟨_, rfl⟩
                go_wp2_with fail
                rw [← hX9] at HUX HSX HO5 ⊢
                clear hX9 c0 c1 c2 c3 c4 d3 d4
                go_loopw [18, 19] (fun v18 v19 wq => ∃ i : Nat, i ≤ mv ∧ v19 = .int .i64 (i : Nat) ∧ Below X9.heap.size X9 wq ∧ wq.ownsRow X9.heap.size 3 1 v18 i (intNews i (fun j => turnZ t.n k (v j)))) (fun _ v19 _ => mv - (intOf v19).toNat)
                case atStart => exact ⟨0, Nat.zero_le _, rfl, Below.refl _ _, owns_none⟩
                case round =>
                  obtain ⟨i, hi3, rfl, hb3, hown⟩ := hrel
                  have HB3 := Lib.hid hb3
                  have HW7 := Lib.hid hown
                  clear hb3 hown
                  by_cases hiv : i < mv
                  · have d3 : decide (i < mv) = true := decide_eq_true hiv
                    have d4 : decide ((i : Int) < (mv : Int)) = true := decide_eq_true (by omega)
                    obtain ⟨bv, ov, rfl, lv, v0⟩ := HV.out i hiv
                    have HO7 := Lib.hid (HO5.out.on HB3.out)
                    have v1 : wr.cell? ⟨bv, ov + i, none⟩ = some (.int .i64 (v i)) := (HO7.out.e.low.cell (p := ⟨bv, ov + i, none⟩) lv).trans v0
                    have v2 : bv < wr.heap.size := Nat.lt_of_lt_of_le lv HO7.out.e.low.size
                    have hi0 : (0 : Int) ≤ (i : Int) := by omega
                    have hi1 : (i : Int) < (mv : Int) := by omega
                    obtain ⟨oV, cV, rfl, -⟩ := owns_form HW7.out
                    clear v0
                    go_wp2_with fail
                    refine (turned_any (v i) gn (w.heap.size + 1) t.n k wr hn1 hn2 hk HO7.out.hn HO7.out.e.h7).mono ?_
                    rintro e X2 ⟨rfl, hb⟩
                    have HB4 := Lib.hid (HB3.out.trans (hb.mono HB3.out.size))
                    have HW8 := Lib.hid (owns_below HW7.out hb)
                    clear hb v1 v2 d3 d4 HB3 HW7 HO7
                    obtain ⟨tz, htz⟩ : ∃ y, y = turnZ t.n k (v i) := ⟨_, rfl⟩
                    rw [← htz]
                    have HTZ := Lib.hid htz
                    clear htz
                    obtain ⟨iI, hiI, hzI0, hzI1, hzI2⟩ := info_parts (P := Tryd.prog) (e := 3) (z := .int .i64 0) (size := 1) (bytes := 8) (by kernel_rfl)
                    have HOE := Lib.hid (owns_below HW8.out (below_alloc1 X2 (.cells #[.int .i64 tz] 3)))
                    have HBE := Lib.hid (HB4.out.trans ((below_alloc1 X2 (.cells #[.int .i64 tz] 3)).mono HB4.out.size))
                    have HNW := Lib.hid (show ∀ ad, some (⟨X2.heap.size, 0, none⟩ : Addr) = some ad → ∀ j9 u9, ([.int .i64 tz] : List Value)[j9]? = some u9 → (X2.alloc (.cells #[.int .i64 tz] 3)).cell? (ad.add j9) = some u9 from fun ad9 e9 j9 u9 hu9 => by cases e9; rw [add_flat, Nat.zero_add]; exact (Box.new #[.int .i64 tz] 3 X2 rfl).cell j9 (by rw [List.getElem?_toArray]; exact hu9))
                    go_wp2_with (at_builtin; (refine wpList_append_gen rfl (.tmp 127) (.tmp 134) 26 rfl X9.heap.size 3 iI _ 1 8 Tryd.underlying26 hiI hzI0 hzI1 hzI2 rfl (by omega) (.slice oV i cV) i (intNews i (fun j => turnZ t.n k (v j))) rfl (some ⟨X2.heap.size, 0, none⟩) 1 1 [.int .i64 tz] rfl HOE.out (fun e9 => by cases e9) rfl HNW.out (by simp [Value.oneCell']) (by simp only [maxLen]; omega) (by omega) HBE.out.size ?_; intro vS wS hownS hgrowS; have HBG := Lib.hid (below_grown HBE.out HOE.out hgrowS); clear hgrowS; obtain ⟨oU, cU, rfl, -⟩ := owns_form hownS; have HOG := Lib.hid hownS; clear hownS))
                    go_roundw
                    case rel => exact ⟨i + 1, by omega, by go_num, HBG.out, (by have := HOG.out; rw [int_news_succ, ← HTZ.out]; exact this)⟩
                    case measure => simp [intOf]; omega
                  · obtain hiv9 : i = mv := by omega
                    subst hiv9
                    have d3 : decide (i < i) = false := by simp
                    have d4 : decide ((i : Int) < (i : Int)) = false := by simp
                    obtain ⟨oV, cV, rfl, hIV, -⟩ := owns_ints HW7.out
                    have hE9 := HO5.out.on HB3.out
                    have hmX := HM.out.on hE9.e.low
                    have H0 := Lib.hid (show F8 t oa ca ob cb k gn gX gU oS cS vo oV i v w wr from ⟨hE9.e, hE9.hn, hE9.hX, ⟨HUX.out.mono HB3.out, HSX.out.mono HB3.out, hmX.T, hmX.l⟩, hmX, hIV, HV.out.mono hE9.e.low⟩)
                    clear hE9 hmX hIV HW7 HUX HSX HO5 HB3
                    obtain ⟨X10, hX10⟩ : ∃ X, X = wr := ⟨_, rfl⟩
                    rw [← hX10] at H0 ⊢
                    clear hX10
                    have n2 := H0.out.hn.cell 0 (v := .int .i64 (t.n : Nat)) rfl
                    have n3 := H0.out.hn.lt
                    go_upto_region 24 with fail
                    go_cut [143] (fun v143 wx => v143 = .bool (decide (0 ≤ z ∧ z < (t.n : Int))) ∧ wx = X10)
                    case first =>
                      by_cases hz0 : 0 ≤ z
                      · by_cases hz1 : z < (t.n : Int)
                        · have q1 : decide (0 ≤ z) = true := decide_eq_true hz0
                          have q2 : decide (z < (t.n : Int)) = true := decide_eq_true hz1
                          have q3 : decide (0 ≤ z ∧ z < (t.n : Int)) = true := decide_eq_true ⟨hz0, hz1⟩
                          go_wp2_with fail
                          go_meet
                          exact ⟨by rw [q3], rfl⟩
                        · have q1 : decide (0 ≤ z) = true := decide_eq_true hz0
                          have q2 : decide (z < (t.n : Int)) = false := decide_eq_false hz1
                          have q3 : decide (0 ≤ z ∧ z < (t.n : Int)) = false := decide_eq_false (fun h => hz1 h.2)
                          go_wp2_with fail
                          go_meet
                          exact ⟨by rw [q3], rfl⟩
                      · have q1 : decide (0 ≤ z) = false := decide_eq_false hz0
                        have q3 : decide (0 ≤ z ∧ z < (t.n : Int)) = false := decide_eq_false (fun h => hz0 h.1)
                        go_wp2_with fail
                        go_meet
                        exact ⟨by rw [q3], rfl⟩
                    case rest =>
                      obtain ⟨rfl, rfl⟩ := hcut
                      obtain ⟨o, ho⟩ : ∃ o, o = ownZ t.n k z := ⟨_, rfl⟩
                      go_upto_if 143 with fail
                      go_cut [20] (fun v20 wx => v20 = .int .i64 o ∧ wx = wc)
                      case first =>
                        by_cases hzz : 0 ≤ z ∧ z < (t.n : Int)
                        · have q3 : decide (0 ≤ z ∧ z < (t.n : Int)) = true := decide_eq_true hzz
                          rw [q3]
                          obtain ⟨hz0, hz1⟩ := hzz
                          have ho2 : o = ((rot t.n k z.toNat : Nat) : Int) := by rw [ho]; unfold ownZ; rw [if_pos ⟨hz0, hz1⟩]
                          have hmk : (z + (k : Int)) % (t.n : Int) = o := by
                            rw [ho2]
                            obtain ⟨s, rfl⟩ : ∃ s : Nat, z = s := ⟨z.toNat, by omega⟩
                            rw [Int.toNat_natCast]; unfold rot; simp
                          have hmk2 : (z + (k : Int)).tmod (t.n : Int) = o := by rw [Int.tmod_eq_emod_of_nonneg (by omega)]; exact hmk
                          have k2 := H0.out.e.h7.cell 0 (v := .int .u8 (k : Nat)) rfl
                          have k3 := H0.out.e.h7.lt
                          have hn0 : (t.n : Int) ≠ 0 := by omega
                          clear ho ho2
                          go_wp2_with fail
                          go_meet
                          exact ⟨rfl, rfl⟩
                        · have q3 : decide (0 ≤ z ∧ z < (t.n : Int)) = false := decide_eq_false hzz
                          rw [q3]
                          have ho2 : o = z := by rw [ho]; unfold ownZ; rw [if_neg hzz]
                          go_wp2_with fail
                          go_meet
                          exact ⟨by rw [ho2], rfl⟩
                      case rest =>
                        obtain ⟨rfl, rfl⟩ := hcut
                        have HO := Lib.hid ho
                        clear ho n2 n3
                        have x0 := H0.out.hX.cell 0 (v := .slice (some ⟨gU, 0, none⟩) t.n t.n) rfl
                        have x1 := H0.out.hX.cell 1 (v := .int .i64 t.leaks) rfl
                        have x2 := H0.out.hX.cell 2 (v := .int .i64 t.least) rfl
                        have x3 := H0.out.hX.cell 3 (v := .slice oS t.m cS) rfl
                        have x4 := H0.out.hX.lt
                        have HTL := Lib.hid (turn_leak HVD.out k z)
                        have HTN := Lib.hid (turn_next HVD.out k i v)
                        obtain ⟨r1, r2⟩ := turn_res HVD.out k
                        have HR1 := Lib.hid r1
                        have HR2 := Lib.hid r2
                        have HR3 := Lib.hid (turn_err HVD.out k)
                        have HTA := Lib.hid (turnZ_nat (k := k) (own_sub t).2)
                        have hsl2 : t.surelyR < 2 ^ t.n := (own_sur t)
                        have HTB := Lib.hid (turnZ_nat (k := k) hsl2)
                        clear r1 r2 hsl2
                        go_wp2_with fail
                        refine (suspects_any (t.turn k) (some ⟨gU, 0, none⟩) t.n oS cS wc (show t.n ≤ 1000000 by omega) (show t.m ≤ 1000000 by omega) H0.out.mX.u H0.out.mX.s H0.out.mX.T H0.out.mX.l).mono ?_
                        rintro e X11 ⟨rfl, hb⟩
                        rw [HR1.out, HR2.out, HR3.out, ← HER.out]
                        have H1 := Lib.hid (H0.out.on hb)
                        clear hb H0 x0 x1 x2 x3 x4
                        obtain ⟨c0, c1, c2, c3, c4⟩ := TB.cells H1.out.e.h4
                        go_wp2_with fail
                        refine (leak_any t oa ca ob cb z X11 (by omega) (by omega) H1.out.mT.u H1.out.mT.s H1.out.mT.T H1.out.mT.l).mono ?_
                        rintro e X12 ⟨rfl, hb⟩
                        obtain ⟨sp, hsp⟩ : ∃ s, s = t.leakR z := ⟨_, rfl⟩
                        obtain ⟨el, hel⟩ : ∃ s, s = t.leakErr z := ⟨_, rfl⟩
                        rw [← hsp, ← hel]
                        rw [← hsp, ← hel, ← HO.out] at HTL
                        clear hsp hel
                        go_upto_region 28 with fail
                        have H2 := Lib.hid ((H1.out.on hb).on (below_alloc1 X12 (.cells #[.int .i64 sp.lo, .int .i64 sp.hi] 37)))
                        have ZA := Lib.hid (Box.new (g := X12.heap.size) #[.int .i64 sp.lo, .int .i64 sp.hi] 37 X12 rfl)
                        clear hb H1 c0 c1 c2 c3 c4
                        obtain ⟨X13, hW⟩ : ∃ X, X = X12.alloc (.cells #[.int .i64 sp.lo, .int .i64 sp.hi] 37) := ⟨_, rfl⟩
                        obtain ⟨ga, hga⟩ : ∃ g, g = X12.heap.size := ⟨_, rfl⟩
                        rw [← hW] at H2 ZA ⊢
                        rw [← hga] at ZA ⊢
                        clear hW hga
                        have x0 := H2.out.hX.cell 0 (v := .slice (some ⟨gU, 0, none⟩) t.n t.n) rfl
                        have x1 := H2.out.hX.cell 1 (v := .int .i64 t.leaks) rfl
                        have x2 := H2.out.hX.cell 2 (v := .int .i64 t.least) rfl
                        have x3 := H2.out.hX.cell 3 (v := .slice oS t.m cS) rfl
                        have x4 := H2.out.hX.lt
                        go_wp2_with fail
                        refine (leak_any (t.turn k) (some ⟨gU, 0, none⟩) t.n oS cS o X13 (show t.n ≤ 1000000 by omega) (show t.m ≤ 1000000 by omega) H2.out.mX.u H2.out.mX.s H2.out.mX.T H2.out.mX.l).mono ?_
                        rintro e X14 ⟨rfl, hb⟩
                        rw [HTL.out.1, HTL.out.2]
                        go_upto_region 29 with fail
                        have H3 := Lib.hid ((H2.out.on hb).on (below_alloc1 X14 (.cells #[.int .i64 sp.lo, .int .i64 sp.hi] 37)))
                        have ZB := Lib.hid (Box.new (g := X14.heap.size) #[.int .i64 sp.lo, .int .i64 sp.hi] 37 X14 rfl)
                        have ZA2 := Lib.hid ((ZA.out.below hb).old (.cells #[.int .i64 sp.lo, .int .i64 sp.hi] 37))
                        clear hb H2 ZA x0 x1 x2 x3 x4 HTL
                        obtain ⟨X15, hW⟩ : ∃ X, X = X14.alloc (.cells #[.int .i64 sp.lo, .int .i64 sp.hi] 37) := ⟨_, rfl⟩
                        obtain ⟨gb, hgb⟩ : ∃ g, g = X14.heap.size := ⟨_, rfl⟩
                        rw [← hW] at H3 ZB ZA2 ⊢
                        rw [← hgb] at ZB ⊢
                        clear hW hgb
                        obtain ⟨c0, c1, c2, c3, c4⟩ := TB.cells H3.out.e.h4
                        go_wp2_with fail
                        refine (next_any t oa ca ob cb vo i vc v X15 (by omega) (by omega) (by omega) H3.out.mT.u H3.out.mT.s H3.out.iT H3.out.mT.T H3.out.mT.l).mono ?_
                        rintro e X16 ⟨rfl, hb⟩
                        have H4 := Lib.hid (H3.out.on hb)
                        have ZA3 := Lib.hid (ZA2.out.below hb)
                        have ZB3 := Lib.hid (ZB.out.below hb)
                        clear hb H3 ZA2 ZB c0 c1 c2 c3 c4
                        have x0 := H4.out.hX.cell 0 (v := .slice (some ⟨gU, 0, none⟩) t.n t.n) rfl
                        have x1 := H4.out.hX.cell 1 (v := .int .i64 t.leaks) rfl
                        have x2 := H4.out.hX.cell 2 (v := .int .i64 t.least) rfl
                        have x3 := H4.out.hX.cell 3 (v := .slice oS t.m cS) rfl
                        have x4 := H4.out.hX.lt
                        go_wp2_with fail
                        refine (next_any (t.turn k) (some ⟨gU, 0, none⟩) t.n oS cS oV i cV (fun j => turnZ t.n k (v j)) X16 (show t.n ≤ 1000000 by omega) (show t.m ≤ 1000000 by omega) (by omega) H4.out.mX.u H4.out.mX.s H4.out.iV H4.out.mX.T H4.out.mX.l).mono ?_
                        rintro e X17 ⟨rfl, hb⟩
                        rw [HTN.out.1, HTN.out.2]
                        have H5 := Lib.hid (H4.out.on hb)
                        have ZA4 := Lib.hid (ZA3.out.below hb)
                        have ZB4 := Lib.hid (ZB3.out.below hb)
                        clear hb H4 ZA3 ZB3 x0 x1 x2 x3 x4 HTN
                        go_wp2_with fail
                        refine (turned_any (t.canR : Nat) gn (w.heap.size + 1) t.n k X17 hn1 hn2 hk H5.out.hn H5.out.e.h7).mono ?_
                        rintro e X18 ⟨rfl, hb⟩
                        rw [HTA.out]
                        have H6 := Lib.hid (H5.out.on hb)
                        have ZA5 := Lib.hid (ZA4.out.below hb)
                        have ZB5 := Lib.hid (ZB4.out.below hb)
                        clear hb H5 ZA4 ZB4
                        go_wp2_with fail
                        refine (turned_any (t.surelyR : Nat) gn (w.heap.size + 1) t.n k X18 hn1 hn2 hk H6.out.hn H6.out.e.h7).mono ?_
                        rintro e X19 ⟨rfl, hb⟩
                        rw [HTB.out]
                        have H7 := Lib.hid (H6.out.on hb)
                        have ZA6 := Lib.hid (ZA5.out.below hb)
                        have ZB6 := Lib.hid (ZB5.out.below hb)
                        clear hb H6 ZA5 ZB5
                        have a0 := ZA6.out.cell 0 (v := .int .i64 sp.lo) rfl
                        have a1 := ZA6.out.cell 1 (v := .int .i64 sp.hi) rfl
                        have b0 := ZB6.out.cell 0 (v := .int .i64 sp.lo) rfl
                        have b1 := ZB6.out.cell 1 (v := .int .i64 sp.hi) rfl
                        go_wp2_with fail
                        refine (awake_any _ H7.out.mT.T H7.out.mT.l).mono ?_
                        rintro e X20 ⟨rfl, hb⟩
                        have H8 := Lib.hid (H7.out.on hb)
                        clear hb
                        go_wp2_with fail
                        go_ret
                        exact ⟨rfl, H8.out.e.low⟩
end Go.Proofs.YtpognhnmkjpipaaDoor
