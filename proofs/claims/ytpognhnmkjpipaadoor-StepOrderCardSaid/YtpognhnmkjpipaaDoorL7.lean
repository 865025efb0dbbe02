/- StepMore returns true. -/
import Derived.Test.YtpognhnmkjpipaaDoorL5
import Derived.Test.YtpognhnmkjpipaaDoorP10
namespace Go.Proofs.YtpognhnmkjpipaaDoor
open Go.RowKit
theorem stpNews_congr {f g : Nat → Stp} : ∀ {n}, (∀ i, i < n → f i = g i) → stpNews n f = stpNews n g
  | 0, _ => rfl
  | n + 1, h => by rw [stpNews_succ, stpNews_succ, stpNews_congr (fun i hi => h i (by omega)), h n (by omega)]
theorem stpNews_rich (t : Tst) (s : Stp) : stpNews t.m t.s ++ [.int .i64 s.shut, .int .i64 s.flow.lo, .int .i64 s.flow.hi] = stpNews (t.rich s).m (t.rich s).s := by
  have e : stpNews (t.rich s).m (t.rich s).s = stpNews t.m (t.rich s).s ++ [.int .i64 ((t.rich s).s t.m).shut, .int .i64 ((t.rich s).s t.m).flow.lo, .int .i64 ((t.rich s).s t.m).flow.hi] := stpNews_succ _ _
  have e2 : (t.rich s).s t.m = s := if_neg (by omega)
  have e3 : stpNews t.m (t.rich s).s = stpNews t.m t.s := stpNews_congr fun i hi => if_pos hi
  rw [e, e2, e3]
/-- the steps that are appended, as cells -/
theorem stps_news {w : World} {oa : Option Addr} {n : Nat} {f : Nat → Stp} (h : StpsAt w oa n f) : ∀ ad, oa = some ad → ∀ j u, (stpNews n f)[j]? = some u → w.cell? (ad.add j) = some u := fun ad had j u hu => by
  have hj : j < n * 3 := by
    have := List.getElem?_eq_some_iff.1 hu
    obtain ⟨hl, -⟩ := this
    rw [stpNews_length] at hl; exact hl
  obtain ⟨b, off, e, -, c0, c1, c2⟩ := h (j / 3) (by omega)
  rw [had] at e
  cases e
  obtain ⟨h0, h1, h2⟩ := stpNews_get (n := n) (f := f) (i := j / 3) (by omega)
  rw [add_flat]
  rcases (by omega : j = j / 3 * 3 ∨ j = j / 3 * 3 + 1 ∨ j = j / 3 * 3 + 1 + 1) with hj3 | hj3 | hj3
  · rw [← hj3] at h0; rw [h0] at hu; cases hu
    rw [← hj3] at c0; exact c0
  · rw [← hj3] at h1; rw [h1] at hu; cases hu
    rw [Nat.add_assoc, ← hj3] at c1; exact c1
  · rw [← hj3] at h2; rw [h2] at hu; cases hu
    rw [Nat.add_assoc, Nat.add_assoc, ← Nat.add_assoc (j / 3 * 3), ← hj3] at c2; exact c2
theorem stps_one {n : Nat} {f : Nat → Stp} : ∀ u ∈ stpNews n f, u.oneCell' = true := fun u hu => by
  simp only [stpNews, List.mem_flatMap] at hu
  obtain ⟨i, -, h⟩ := hu
  simp at h
  rcases h with rfl | rfl | rfl <;> rfl
/-- one box may have changed, and what was made since -/
structure AR (g : Nat) (cs : Array Value) (Wr A : World) : Prop where
  same : Same (fun b => b < Wr.heap.size ∧ b ≠ g) Wr A
  box : Box g cs 25 A
  lt : g < Wr.heap.size
theorem AR.on {g : Nat} {cs : Array Value} {Wr A B : World} (h : AR g cs Wr A) (hb : Below A.heap.size A B) : AR g cs Wr B := ⟨h.same.trans (Same.of_below hb fun _ hk _ => hk), h.box.below hb, h.lt⟩
theorem AR.grown {g : Nat} {cs : Array Value} {Wr A B : World} {base e size n : Nat} {v : Value} {xs : List Value} (h : AR g cs Wr A) (ho : A.ownsRow base e size v n xs) (hb : Wr.heap.size ≤ base) (hg : A.grownBy B v.ownBlock) : AR g cs Wr B := by
  have hrow : ∀ k, v.ownBlock = some k → Wr.heap.size ≤ k := fun k e => Nat.le_trans hb (ho.lt k e).1
  refine ⟨h.same.trans (Same.of_grownBy hg fun k e hp => ?_), ⟨(hg.block g h.box.lt (fun e => ?_)).trans h.box.row⟩, h.lt⟩
  · have := hrow k e; omega
  · have := hrow g e.symm; have := h.lt; omega
section
variable {P : Program} {Q : Exit → Act → World → Prop} {md : Region.Mode} {C : World → Prop}
/-- one of three -/
theorem wpAnyG_three {l r r' r'' : List Oper} {i j k : Nat} {oi oj ok : Oper} {fuel : Nat} {listed : Array Bool} {a : Act} {w : World} (hr : Region.ready md l.toArray listed = [i, j, k]) (hi : l.drop i = oi :: r) (hj : l.drop j = oj :: r') (hk : l.drop k = ok :: r'') (hwi : Region.wanted oi (yielded l.toArray a.tmps) = true) (hwj : Region.wanted oj (yielded l.toArray a.tmps) = true) (hwk : Region.wanted ok (yielded l.toArray a.tmps) = true)
    (h1 : ∀ w', Below w.heap.size w w' → ∀ K : Act → World → Prop, (∀ a' w'', C w'' → wpAnyG P md l.toArray C Q fuel (listed.setIfInBounds i true) a' w'' → K a' w'') → oi.wp P a w' K Q)
    (h2 : ∀ w', Below w.heap.size w w' → ∀ K : Act → World → Prop, (∀ a' w'', C w'' → wpAnyG P md l.toArray C Q fuel (listed.setIfInBounds j true) a' w'' → K a' w'') → oj.wp P a w' K Q)
    (h3 : ∀ w', Below w.heap.size w w' → ∀ K : Act → World → Prop, (∀ a' w'', C w'' → wpAnyG P md l.toArray C Q fuel (listed.setIfInBounds k true) a' w'' → K a' w'') → ok.wp P a w' K Q) : wpAnyG P md l.toArray C Q (fuel + 1) listed a w := fun w' hb =>
  ⟨fun h0 => (by rw [hr] at h0; cases h0), fun q hq => by
    rw [hr] at hq
    rcases List.mem_cons.1 hq with rfl | hq
    · unfold wpOp
      simp only [drop_get hi, hwi, if_true]
      exact .inl (h1 w' hb _ fun _ _ p q => ⟨p, q⟩)
    · rcases List.mem_cons.1 hq with rfl | hq
      · unfold wpOp
        simp only [drop_get hj, hwj, if_true]
        exact .inl (h2 w' hb _ fun _ _ p q => ⟨p, q⟩)
      · obtain rfl : q = k := by simpa using hq
        unfold wpOp
        simp only [drop_get hk, hwk, if_true]
        exact .inl (h3 w' hb _ fun _ _ p q => ⟨p, q⟩)⟩
end
theorem res_lt {t : Tst} (hn : t.n ≤ 10) : t.canR < 1024 ∧ t.surelyR < 1024 := by
  have h10 := pow_ten hn
  have h1 := bits_lt (t := t) (2 ^ t.n) (Nat.le_refl _)
  have e : verdF t (gL t (2 ^ t.n)) = verd t := rfl
  rw [e] at h1
  unfold Tst.canR Tst.surelyR
  constructor <;> split <;> omega
theorem stps_only {w w' : World} {oa : Option Addr} {n : Nat} {f : Nat → Stp} {g : Nat} (h : StpsAt w oa n f) (ho : Only g w w') (hne : ∀ a, 0 < n → oa = some a → a.block ≠ g) : StpsAt w' oa n f := fun i hi => by
  obtain ⟨b, off, e, hl, c0, c1, c2⟩ := h i hi
  have k := ho.block b (hne _ (by omega) e)
  exact ⟨b, off, e, by rw [ho.size]; exact hl, (World.cell?_of_block (a := ⟨b, off + i * 3, none⟩) k).trans c0, (World.cell?_of_block (a := ⟨b, off + i * 3 + 1, none⟩) k).trans c1, (World.cell?_of_block (a := ⟨b, off + i * 3 + 1 + 1, none⟩) k).trans c2⟩
theorem StpsAt.same4 {w w' : World} {oa : Option Addr} {n : Nat} {f : Nat → Stp} {g : Nat} {cs : Array Value} (h : StpsAt w oa n f) (ha : AR g cs w w') (hne : ∀ a, 0 < n → oa = some a → a.block ≠ g) : StpsAt w' oa n f := fun i hi => by
  obtain ⟨b, off, e, hl, c0, c1, c2⟩ := h i hi
  have hb := hne _ (by omega) e
  have k := ha.same.block b hl ⟨hl, hb⟩
  exact ⟨b, off, e, Nat.lt_of_lt_of_le hl ha.same.size, (World.cell?_of_block (a := ⟨b, off + i * 3, none⟩) k).trans c0, (World.cell?_of_block (a := ⟨b, off + i * 3 + 1, none⟩) k).trans c1, (World.cell?_of_block (a := ⟨b, off + i * 3 + 1 + 1, none⟩) k).trans c2⟩
/-- what StepMore keeps -/
structure MI (t : Tst) (s : Stp) (oa : Option Addr) (ca : Nat) (ob : Option Addr) (cb : Nat) (w W : World) : Prop where
  low : Below w.heap.size w W
  hT : TB t oa ca ob cb w.heap.size W
  hS : Box (w.heap.size + 1) #[.int .i64 s.shut, .int .i64 s.flow.lo, .int .i64 s.flow.hi] 49 W
  mem : Mem t oa ob W
theorem MI.on {t : Tst} {s : Stp} {oa : Option Addr} {ca : Nat} {ob : Option Addr} {cb : Nat} {w A B : World} (h : MI t s oa ca ob cb w A) (hb : Below A.heap.size A B) : MI t s oa ca ob cb w B :=
  ⟨h.low.trans (hb.mono h.low.size), h.hT.below hb, h.hS.below hb, h.mem.on hb⟩
set_option maxRecDepth 100000 in
set_option maxHeartbeats 8000000 in
theorem stepMore_any (t : Tst) (oa : Option Addr) (ca : Nat) (ob : Option Addr) (cb : Nat) (s : Stp) (z : Nat) (w : World) (hM : Mem t oa ob w) (hnil : ob = none → t.m = 0 ∧ cb = 0) (hz : z < 256) :
    Calls Tryd.prog 7 #[t.val oa ca ob cb, s.val, .int .u8 (z : Nat)] w fun e w' => e = .returned (.bool true) ∧ Below w.heap.size w w' := by
  have HM := Lib.hid hM
  have HNIL := Lib.hid hnil
  clear hM hnil
  go_enter Tryd.func7, Tryd.ntmps7
  go_wp2_with fail
  have hI0 : MI t s oa ca ob cb w ((w.alloc (.cells #[.slice oa t.n ca, .int .i64 t.leaks, .int .i64 t.least, .slice ob t.m cb] 25)).alloc (.cells #[.int .i64 s.shut, .int .i64 s.flow.lo, .int .i64 s.flow.hi] 49)) := ⟨(by repeat' (first | exact Below.refl _ _ | assumption | apply below_drewN | apply Below.drew | (refine Below.alloc ?_ ?_ _) | (refine Below.setCell ?_ ?_ _) | (simp; done) | (simp; omega) | omega)), (Box.new _ 25 w rfl).old _, Box.new _ 49 _ (by simp), HM.out.on ((by repeat' (first | exact Below.refl _ _ | assumption | apply below_drewN | apply Below.drew | (refine Below.alloc ?_ ?_ _) | (refine Below.setCell ?_ ?_ _) | (simp; done) | (simp; omega) | omega)))⟩
  obtain ⟨X0, hW⟩ : ∃ X, X = ((w.alloc (.cells #[.slice oa t.n ca, .int .i64 t.leaks, .int .i64 t.least, .slice ob t.m cb] 25)).alloc (.cells #[.int .i64 s.shut, .int .i64 s.flow.lo, .int .i64 s.flow.hi] 49)) := ⟨_, rfl⟩
  rw [← hW] at hI0 ⊢
  clear hW
  refine (large_any t oa ca ob cb _).mono ?_
  rintro e X1 ⟨rfl, hb⟩
  have I1 := Lib.hid (hI0.on hb)
  clear hI0 hb
  cases hl : largeB t.n t.m
  case true =>
    clear hl
    go_wp2_with fail
    refine (awake_any _ I1.out.mem.T I1.out.mem.l).mono ?_
    rintro e X2 ⟨rfl, hb⟩
    have I2 := Lib.hid (I1.out.on hb)
    clear hb
    go_wp2_with fail
    go_ret
    exact ⟨rfl, I2.out.low⟩
  case false =>
    have hn : t.n ≤ 1000000 ∧ t.m ≤ 1000000 := by
      simp only [largeB, Bool.or_eq_false_iff, decide_eq_false_iff_not] at hl
      omega
    clear hl
    obtain ⟨hn, hm⟩ := hn
    obtain ⟨c0, c1, c2, c3, c4⟩ := TB.cells I1.out.hT
    by_cases hm12 : 12 ≤ t.m
    · have hd : decide (12 ≤ t.m) = true := by simpa using hm12
      go_wp2_with fail
      refine (awake_any _ I1.out.mem.T I1.out.mem.l).mono ?_
      rintro e X2 ⟨rfl, hb⟩
      have I2 := Lib.hid (I1.out.on hb)
      clear hb
      go_wp2_with fail
      go_ret
      exact ⟨rfl, I2.out.low⟩
    have hd : decide (12 ≤ t.m) = false := by simpa using hm12
    have H1 := Lib.hid (fun W (hM : Mem t oa ob W) => suspects_any t oa ca ob cb W hn hm hM.u hM.s hM.T hM.l)
    have H2 := Lib.hid (fun W (hM : Mem t oa ob W) => refTest_any t oa ca ob cb W hn hm hM.u hM.s)
    go_wp2_with fail
    refine (H1.out _ I1.out.mem).mono ?_
    rintro e X2 ⟨rfl, hb⟩
    have I2 := Lib.hid (I1.out.on hb)
    clear I1 hb c0 c1 c2 c3 c4
    obtain ⟨c0, c1, c2, c3, c4⟩ := TB.cells I2.out.hT
    cases hv : t.valid
    · have he := err_valid.2 hv
      obtain ⟨r1, r2⟩ := res_no (t := t) (by omega)
      rw [he, r1, r2]
      have I1 := I2
      clear I2 hv he r1 r2
      go_wp2_with fail
      refine (awake_any _ I1.out.mem.T I1.out.mem.l).mono ?_
      rintro e X2 ⟨rfl, hb⟩
      have I2 := Lib.hid (I1.out.on hb)
      clear hb
      go_wp2_with fail
      go_ret
      exact ⟨rfl, I2.out.low⟩
    · have he1 : t.err ≠ 1 := fun h => by rw [err_valid.1 h] at hv; cases hv
      have hk := Lib.hid (Tst.ok hv)
      have HVA := Lib.hid hv
      obtain ⟨o1, o2⟩ := own_sub t
      have hce := Lib.hid (show ∃ er, er = t.err ∧ (er == 1) = false from ⟨_, rfl, by simpa using he1⟩)
      obtain ⟨er, her, her1⟩ := hce.out
      obtain ⟨a, ha⟩ : ∃ a, a = t.canR := ⟨_, rfl⟩
      obtain ⟨b, hb⟩ : ∃ a, a = t.surelyR := ⟨_, rfl⟩
      rw [← ha] at o1 o2 ⊢
      rw [← hb] at o1 ⊢
      rw [← her]
      have HA := Lib.hid ha
      have HB := Lib.hid hb
      have HER := Lib.hid her
      have hn2 := hk.out.n2
      have h10 := pow_ten hn2
      have o3 : b < 1024 := by rw [hb]; unfold Tst.surelyR; split; exact (verd_bd hv).y; omega
      have V1 := i64_andNot_nat b a (by omega) (by omega)
      rw [o1] at V1
      obtain ⟨M, hM⟩ : ∃ M, M = 2 ^ t.n := ⟨_, rfl⟩
      rw [← hM] at o2
      have o4 : decide ((M : Int) ≤ (a : Int)) = false := decide_eq_false (by omega)
      have o5 : decide (M ≤ a) = false := decide_eq_false (by omega)
      have P1 := pow_wrap hn2
      rw [← hM] at P1
      have HMM := Lib.hid hM
      clear hM
      clear ha hb her hv he1 hce o1
      have HO2 := Lib.hid o2
      go_wp2_with fail
      refine (H2.out _ I2.out.mem).mono ?_
      rintro e X3 ⟨rfl, hb⟩
      rw [HVA.out]
      have I3 := Lib.hid (I2.out.on hb)
      clear I2 hb c0 c1 c2 c3 c4
      obtain ⟨c0, c1, c2, c3, c4⟩ := TB.cells I3.out.hT
      go_upto_region 8 with fail
      clear P1 o4 o5 V1
      go_cut [10, 11, 12] from 72 to 74 (fun s10 s11 s12 wx => ∃ gA gB gC, s10 = .pointer (some ⟨gA, 0, none⟩) ∧ s11 = .pointer (some ⟨gB, 0, none⟩) ∧ s12 = .pointer (some ⟨gC, 0, none⟩) ∧ gA ≠ gB ∧ gA ≠ gC ∧ gB ≠ gC ∧ X3.heap.size ≤ gA ∧ X3.heap.size ≤ gB ∧ X3.heap.size ≤ gC ∧ Below X3.heap.size X3 wx ∧ Box gA #[.slice oa t.n ca, .int .i64 t.leaks, .int .i64 t.least, .slice ob t.m cb] 25 wx ∧ Box gB #[.slice oa t.n ca, .int .i64 t.leaks, .int .i64 t.least, .slice ob t.m cb] 25 wx ∧ Box gC #[.slice oa t.n ca, .int .i64 t.leaks, .int .i64 t.least, .slice ob t.m cb] 25 wx)
      case first =>
        have hCC : ∀ A B : World, Below X3.heap.size X3 A → Below A.heap.size A B → Below X3.heap.size X3 B := fun A B h1 h2 => h1.trans (h2.mono h1.size)
        have hC0 : Below X3.heap.size X3 X3.drew := (Below.refl _ _).drew
        refine wp_region_garb (Below X3.heap.size X3) (by kernel_rfl) ?_
        (refine wpAnyG_take (i := 0) hCC hC0 rfl (by kernel_rfl) (by kernel_rfl) (by kernel_rfl) (fun _ _ _ _ h => h) (by rfl) ?_; apply Exists.intro; refine ⟨fun w1 h1 K hK => ?_, ?_⟩; · (have f1 := fun W : Aft w1 => TB.cells (I3.out.hT.below (hCC _ _ h1 W.below)); have g0 : ∀ W : Aft w1, W.val.cell? ⟨w.heap.size, 0, none⟩ = some (.slice oa t.n ca) := fun W => (f1 W).1; have g1 : ∀ W : Aft w1, W.val.cell? ⟨w.heap.size, 1, none⟩ = some (.int .i64 t.leaks) := fun W => (f1 W).2.1; have g2 : ∀ W : Aft w1, W.val.cell? ⟨w.heap.size, 2, none⟩ = some (.int .i64 t.least) := fun W => (f1 W).2.2.1; have g3 : ∀ W : Aft w1, W.val.cell? ⟨w.heap.size, 3, none⟩ = some (.slice ob t.m cb) := fun W => (f1 W).2.2.2.1; clear f1; go_big_quiet_op; first | exact hK | fail))
        (refine wpAnyG_take (i := 1) hCC hC0 rfl (by kernel_rfl) (by kernel_rfl) (by kernel_rfl) (fun _ _ _ _ h => h) (by rfl) ?_; apply Exists.intro; refine ⟨fun w1 h1 K hK => ?_, ?_⟩; · (have f1 := fun W : Aft w1 => TB.cells (I3.out.hT.below (hCC _ _ h1 W.below)); have g0 : ∀ W : Aft w1, W.val.cell? ⟨w.heap.size, 0, none⟩ = some (.slice oa t.n ca) := fun W => (f1 W).1; have g1 : ∀ W : Aft w1, W.val.cell? ⟨w.heap.size, 1, none⟩ = some (.int .i64 t.leaks) := fun W => (f1 W).2.1; have g2 : ∀ W : Aft w1, W.val.cell? ⟨w.heap.size, 2, none⟩ = some (.int .i64 t.least) := fun W => (f1 W).2.2.1; have g3 : ∀ W : Aft w1, W.val.cell? ⟨w.heap.size, 3, none⟩ = some (.slice ob t.m cb) := fun W => (f1 W).2.2.2.1; clear f1; go_big_quiet_op; first | exact hK | fail))
        (refine wpAnyG_take (i := 2) hCC hC0 rfl (by kernel_rfl) (by kernel_rfl) (by kernel_rfl) (fun _ _ _ _ h => h) (by rfl) ?_; apply Exists.intro; refine ⟨fun w1 h1 K hK => ?_, ?_⟩; · (have f1 := fun W : Aft w1 => TB.cells (I3.out.hT.below (hCC _ _ h1 W.below)); have g0 : ∀ W : Aft w1, W.val.cell? ⟨w.heap.size, 0, none⟩ = some (.slice oa t.n ca) := fun W => (f1 W).1; have g1 : ∀ W : Aft w1, W.val.cell? ⟨w.heap.size, 1, none⟩ = some (.int .i64 t.leaks) := fun W => (f1 W).2.1; have g2 : ∀ W : Aft w1, W.val.cell? ⟨w.heap.size, 2, none⟩ = some (.int .i64 t.least) := fun W => (f1 W).2.2.1; have g3 : ∀ W : Aft w1, W.val.cell? ⟨w.heap.size, 3, none⟩ = some (.slice ob t.m cb) := fun W => (f1 W).2.2.2.1; clear f1; go_big_quiet_op; first | exact hK | fail))
        clear c0 c1 c2 c3 c4
        refine wpAnyG_three (i := 3) (j := 4) (k := 5) (by kernel_rfl) rfl rfl rfl (by rfl) (by rfl) (by rfl) (fun wa hwa K hK => ?_) (fun wa hwa K hK => ?_) (fun wa hwa K hK => ?_)
        · skip
          go_simp
          refine hK _ _ ((hCC _ _ hC0 hwa).alloc (by have := hC0.size; have := hwa.size; omega) _) ?_
          clear hK K
          have nbA := Box.new (g := wa.heap.size) #[.slice none 0 0, .int .i64 0, .int .i64 0, .slice none 0 0] 25 wa rfl
          have hC1 := (hCC _ _ hC0 hwa).alloc (by have := hC0.size; have := hwa.size; omega) (.cells #[.slice none 0 0, .int .i64 0, .int .i64 0, .slice none 0 0] 25)
          have hgA : X3.heap.size ≤ wa.heap.size := Nat.le_trans hC0.size hwa.size
          clear hwa hC0
          obtain ⟨gA, hG⟩ : ∃ G, G = wa.heap.size := ⟨_, rfl⟩
          obtain ⟨wA, hWA⟩ : ∃ X, X = wa.alloc (.cells #[.slice none 0 0, .int .i64 0, .int .i64 0, .slice none 0 0] 25) := ⟨_, rfl⟩
          rw [← hG] at nbA hgA  ⊢
          rw [← hWA] at nbA hC1  ⊢
          clear hG hWA
          have hC0 := hC1
          clear hC1
          (refine wpAnyG_two (i := 4) (k := 5) (by kernel_rfl) rfl rfl (by rfl) (by rfl) (fun wa hwa K hK => ?_) (fun wa hwa K hK => ?_))
          · skip
            go_simp
            refine hK _ _ ((hCC _ _ hC0 hwa).alloc (by have := hC0.size; have := hwa.size; omega) _) ?_
            clear hK K
            have nbB := Box.new (g := wa.heap.size) #[.slice none 0 0, .int .i64 0, .int .i64 0, .slice none 0 0] 25 wa rfl
            have n2A := (nbA.below hwa).old (.cells #[.slice none 0 0, .int .i64 0, .int .i64 0, .slice none 0 0] 25)
            have neAB : gA ≠ wa.heap.size := by have := (nbA.below hwa).lt; omega
            clear nbA
            have nbA := n2A
            clear n2A
            have hC1 := (hCC _ _ hC0 hwa).alloc (by have := hC0.size; have := hwa.size; omega) (.cells #[.slice none 0 0, .int .i64 0, .int .i64 0, .slice none 0 0] 25)
            have hgB : X3.heap.size ≤ wa.heap.size := Nat.le_trans hC0.size hwa.size
            clear hwa hC0
            obtain ⟨gB, hG⟩ : ∃ G, G = wa.heap.size := ⟨_, rfl⟩
            obtain ⟨wA, hWA⟩ : ∃ X, X = wa.alloc (.cells #[.slice none 0 0, .int .i64 0, .int .i64 0, .slice none 0 0] 25) := ⟨_, rfl⟩
            rw [← hG] at nbB hgB neAB ⊢
            rw [← hWA] at nbB hC1 nbA ⊢
            clear hG hWA
            have hC0 := hC1
            clear hC1
            (refine wpAnyG_one (i := 5) (by kernel_rfl) rfl (by rfl) (fun wa hwa K hK => ?_))
            go_simp
            refine hK _ _ ((hCC _ _ hC0 hwa).alloc (by have := hC0.size; have := hwa.size; omega) _) ?_
            clear hK K
            have nbC := Box.new (g := wa.heap.size) #[.slice none 0 0, .int .i64 0, .int .i64 0, .slice none 0 0] 25 wa rfl
            have n2A := (nbA.below hwa).old (.cells #[.slice none 0 0, .int .i64 0, .int .i64 0, .slice none 0 0] 25)
            have neAC : gA ≠ wa.heap.size := by have := (nbA.below hwa).lt; omega
            clear nbA
            have nbA := n2A
            clear n2A
            have n2B := (nbB.below hwa).old (.cells #[.slice none 0 0, .int .i64 0, .int .i64 0, .slice none 0 0] 25)
            have neBC : gB ≠ wa.heap.size := by have := (nbB.below hwa).lt; omega
            clear nbB
            have nbB := n2B
            clear n2B
            have hC1 := (hCC _ _ hC0 hwa).alloc (by have := hC0.size; have := hwa.size; omega) (.cells #[.slice none 0 0, .int .i64 0, .int .i64 0, .slice none 0 0] 25)
            have hgC : X3.heap.size ≤ wa.heap.size := Nat.le_trans hC0.size hwa.size
            clear hwa hC0
            obtain ⟨gC, hG⟩ : ∃ G, G = wa.heap.size := ⟨_, rfl⟩
            obtain ⟨wA, hWA⟩ : ∃ X, X = wa.alloc (.cells #[.slice none 0 0, .int .i64 0, .int .i64 0, .slice none 0 0] 25) := ⟨_, rfl⟩
            rw [← hG] at nbC hgC neAC neBC ⊢
            rw [← hWA] at nbC hC1 nbA nbB ⊢
            clear hG hWA
            have hC0 := hC1
            clear hC1
            (refine wpAnyG_one (i := 6) (by kernel_rfl) rfl (by rfl) (fun wb hwb K hK => ?_))
            refine wp_store_box (nbA.below hwb) rfl rfl rfl rfl (by kernel_rfl) (by simp [Value.oneCell']) (fun wc zb ho => ?_); dsimp only [Act.put]
            have n2B := ho.box (nbB.below hwb) (Ne.symm neAB)
            clear nbB
            have nbB := n2B
            clear n2B
            have n2C := ho.box (nbC.below hwb) (Ne.symm neAC)
            clear nbC
            have nbC := n2C
            clear n2C
            have hC1 := (hCC _ _ hC0 hwb).trans (ho.below hgA)
            refine hK _ _ hC1 ?_
            clear hK K hC0 hwb ho nbA
            have nbA := zb
            have hC0 := hC1
            clear hC1 zb
            (refine wpAnyG_one (i := 7) (by kernel_rfl) rfl (by rfl) (fun wb hwb K hK => ?_))
            refine wp_store_box (nbB.below hwb) rfl rfl rfl rfl (by kernel_rfl) (by simp [Value.oneCell']) (fun wc zb ho => ?_); dsimp only [Act.put]
            have n2A := ho.box (nbA.below hwb) neAB
            clear nbA
            have nbA := n2A
            clear n2A
            have n2C := ho.box (nbC.below hwb) (Ne.symm neBC)
            clear nbC
            have nbC := n2C
            clear n2C
            have hC1 := (hCC _ _ hC0 hwb).trans (ho.below hgB)
            refine hK _ _ hC1 ?_
            clear hK K hC0 hwb ho nbB
            have nbB := zb
            have hC0 := hC1
            clear hC1 zb
            (refine wpAnyG_one (i := 8) (by kernel_rfl) rfl (by rfl) (fun wb hwb K hK => ?_))
            refine wp_store_box (nbC.below hwb) rfl rfl rfl rfl (by kernel_rfl) (by simp [Value.oneCell']) (fun wc zb ho => ?_); dsimp only [Act.put]
            have n2A := ho.box (nbA.below hwb) neAC
            clear nbA
            have nbA := n2A
            clear n2A
            have n2B := ho.box (nbB.below hwb) neBC
            clear nbB
            have nbB := n2B
            clear n2B
            have hC1 := (hCC _ _ hC0 hwb).trans (ho.below hgC)
            refine hK _ _ hC1 ?_
            clear hK K hC0 hwb ho nbC
            have nbC := zb
            have hC0 := hC1
            clear hC1 zb
            refine wpAnyG_done (by kernel_rfl) (fun wz hwz => ?_) _
            go_wp2_with fail
            go_meet
            exact ⟨_, _, _, rfl, rfl, rfl, neAB, neAC, neBC, hgA, hgB, hgC, hCC _ _ hC0 hwz, nbA.below hwz, nbB.below hwz, nbC.below hwz⟩
          · skip
            go_simp
            refine hK _ _ ((hCC _ _ hC0 hwa).alloc (by have := hC0.size; have := hwa.size; omega) _) ?_
            clear hK K
            have nbC := Box.new (g := wa.heap.size) #[.slice none 0 0, .int .i64 0, .int .i64 0, .slice none 0 0] 25 wa rfl
            have n2A := (nbA.below hwa).old (.cells #[.slice none 0 0, .int .i64 0, .int .i64 0, .slice none 0 0] 25)
            have neAC : gA ≠ wa.heap.size := by have := (nbA.below hwa).lt; omega
            clear nbA
            have nbA := n2A
            clear n2A
            have hC1 := (hCC _ _ hC0 hwa).alloc (by have := hC0.size; have := hwa.size; omega) (.cells #[.slice none 0 0, .int .i64 0, .int .i64 0, .slice none 0 0] 25)
            have hgC : X3.heap.size ≤ wa.heap.size := Nat.le_trans hC0.size hwa.size
            clear hwa hC0
            obtain ⟨gC, hG⟩ : ∃ G, G = wa.heap.size := ⟨_, rfl⟩
            obtain ⟨wA, hWA⟩ : ∃ X, X = wa.alloc (.cells #[.slice none 0 0, .int .i64 0, .int .i64 0, .slice none 0 0] 25) := ⟨_, rfl⟩
            rw [← hG] at nbC hgC neAC ⊢
            rw [← hWA] at nbC hC1 nbA ⊢
            clear hG hWA
            have hC0 := hC1
            clear hC1
            (refine wpAnyG_one (i := 4) (by kernel_rfl) rfl (by rfl) (fun wa hwa K hK => ?_))
            go_simp
            refine hK _ _ ((hCC _ _ hC0 hwa).alloc (by have := hC0.size; have := hwa.size; omega) _) ?_
            clear hK K
            have nbB := Box.new (g := wa.heap.size) #[.slice none 0 0, .int .i64 0, .int .i64 0, .slice none 0 0] 25 wa rfl
            have n2A := (nbA.below hwa).old (.cells #[.slice none 0 0, .int .i64 0, .int .i64 0, .slice none 0 0] 25)
            have neAB : gA ≠ wa.heap.size := by have := (nbA.below hwa).lt; omega
            clear nbA
            have nbA := n2A
            clear n2A
            have n2C := (nbC.below hwa).old (.cells #[.slice none 0 0, .int .i64 0, .int .i64 0, .slice none 0 0] 25)
            have neCB : gC ≠ wa.heap.size := by have := (nbC.below hwa).lt; omega
            clear nbC
            have nbC := n2C
            clear n2C
            have hC1 := (hCC _ _ hC0 hwa).alloc (by have := hC0.size; have := hwa.size; omega) (.cells #[.slice none 0 0, .int .i64 0, .int .i64 0, .slice none 0 0] 25)
            have hgB : X3.heap.size ≤ wa.heap.size := Nat.le_trans hC0.size hwa.size
            clear hwa hC0
            obtain ⟨gB, hG⟩ : ∃ G, G = wa.heap.size := ⟨_, rfl⟩
            obtain ⟨wA, hWA⟩ : ∃ X, X = wa.alloc (.cells #[.slice none 0 0, .int .i64 0, .int .i64 0, .slice none 0 0] 25) := ⟨_, rfl⟩
            rw [← hG] at nbB hgB neAB neCB ⊢
            rw [← hWA] at nbB hC1 nbA nbC ⊢
            clear hG hWA
            have hC0 := hC1
            clear hC1
            (refine wpAnyG_one (i := 6) (by kernel_rfl) rfl (by rfl) (fun wb hwb K hK => ?_))
            refine wp_store_box (nbA.below hwb) rfl rfl rfl rfl (by kernel_rfl) (by simp [Value.oneCell']) (fun wc zb ho => ?_); dsimp only [Act.put]
            have n2B := ho.box (nbB.below hwb) (Ne.symm neAB)
            clear nbB
            have nbB := n2B
            clear n2B
            have n2C := ho.box (nbC.below hwb) (Ne.symm neAC)
            clear nbC
            have nbC := n2C
            clear n2C
            have hC1 := (hCC _ _ hC0 hwb).trans (ho.below hgA)
            refine hK _ _ hC1 ?_
            clear hK K hC0 hwb ho nbA
            have nbA := zb
            have hC0 := hC1
            clear hC1 zb
            (refine wpAnyG_one (i := 7) (by kernel_rfl) rfl (by rfl) (fun wb hwb K hK => ?_))
            refine wp_store_box (nbB.below hwb) rfl rfl rfl rfl (by kernel_rfl) (by simp [Value.oneCell']) (fun wc zb ho => ?_); dsimp only [Act.put]
            have n2A := ho.box (nbA.below hwb) neAB
            clear nbA
            have nbA := n2A
            clear n2A
            have n2C := ho.box (nbC.below hwb) neCB
            clear nbC
            have nbC := n2C
            clear n2C
            have hC1 := (hCC _ _ hC0 hwb).trans (ho.below hgB)
            refine hK _ _ hC1 ?_
            clear hK K hC0 hwb ho nbB
            have nbB := zb
            have hC0 := hC1
            clear hC1 zb
            (refine wpAnyG_one (i := 8) (by kernel_rfl) rfl (by rfl) (fun wb hwb K hK => ?_))
            refine wp_store_box (nbC.below hwb) rfl rfl rfl rfl (by kernel_rfl) (by simp [Value.oneCell']) (fun wc zb ho => ?_); dsimp only [Act.put]
            have n2A := ho.box (nbA.below hwb) neAC
            clear nbA
            have nbA := n2A
            clear n2A
            have n2B := ho.box (nbB.below hwb) (Ne.symm neCB)
            clear nbB
            have nbB := n2B
            clear n2B
            have hC1 := (hCC _ _ hC0 hwb).trans (ho.below hgC)
            refine hK _ _ hC1 ?_
            clear hK K hC0 hwb ho nbC
            have nbC := zb
            have hC0 := hC1
            clear hC1 zb
            refine wpAnyG_done (by kernel_rfl) (fun wz hwz => ?_) _
            go_wp2_with fail
            go_meet
            exact ⟨_, _, _, rfl, rfl, rfl, neAB, neAC, (Ne.symm neCB), hgA, hgB, hgC, hCC _ _ hC0 hwz, nbA.below hwz, nbB.below hwz, nbC.below hwz⟩
        · skip
          go_simp
          refine hK _ _ ((hCC _ _ hC0 hwa).alloc (by have := hC0.size; have := hwa.size; omega) _) ?_
          clear hK K
          have nbB := Box.new (g := wa.heap.size) #[.slice none 0 0, .int .i64 0, .int .i64 0, .slice none 0 0] 25 wa rfl
          have hC1 := (hCC _ _ hC0 hwa).alloc (by have := hC0.size; have := hwa.size; omega) (.cells #[.slice none 0 0, .int .i64 0, .int .i64 0, .slice none 0 0] 25)
          have hgB : X3.heap.size ≤ wa.heap.size := Nat.le_trans hC0.size hwa.size
          clear hwa hC0
          obtain ⟨gB, hG⟩ : ∃ G, G = wa.heap.size := ⟨_, rfl⟩
          obtain ⟨wA, hWA⟩ : ∃ X, X = wa.alloc (.cells #[.slice none 0 0, .int .i64 0, .int .i64 0, .slice none 0 0] 25) := ⟨_, rfl⟩
          rw [← hG] at nbB hgB  ⊢
          rw [← hWA] at nbB hC1  ⊢
          clear hG hWA
          have hC0 := hC1
          clear hC1
          (refine wpAnyG_two (i := 3) (k := 5) (by kernel_rfl) rfl rfl (by rfl) (by rfl) (fun wa hwa K hK => ?_) (fun wa hwa K hK => ?_))
          · skip
            go_simp
            refine hK _ _ ((hCC _ _ hC0 hwa).alloc (by have := hC0.size; have := hwa.size; omega) _) ?_
            clear hK K
            have nbA := Box.new (g := wa.heap.size) #[.slice none 0 0, .int .i64 0, .int .i64 0, .slice none 0 0] 25 wa rfl
            have n2B := (nbB.below hwa).old (.cells #[.slice none 0 0, .int .i64 0, .int .i64 0, .slice none 0 0] 25)
            have neBA : gB ≠ wa.heap.size := by have := (nbB.below hwa).lt; omega
            clear nbB
            have nbB := n2B
            clear n2B
            have hC1 := (hCC _ _ hC0 hwa).alloc (by have := hC0.size; have := hwa.size; omega) (.cells #[.slice none 0 0, .int .i64 0, .int .i64 0, .slice none 0 0] 25)
            have hgA : X3.heap.size ≤ wa.heap.size := Nat.le_trans hC0.size hwa.size
            clear hwa hC0
            obtain ⟨gA, hG⟩ : ∃ G, G = wa.heap.size := ⟨_, rfl⟩
            obtain ⟨wA, hWA⟩ : ∃ X, X = wa.alloc (.cells #[.slice none 0 0, .int .i64 0, .int .i64 0, .slice none 0 0] 25) := ⟨_, rfl⟩
            rw [← hG] at nbA hgA neBA ⊢
            rw [← hWA] at nbA hC1 nbB ⊢
            clear hG hWA
            have hC0 := hC1
            clear hC1
            (refine wpAnyG_one (i := 5) (by kernel_rfl) rfl (by rfl) (fun wa hwa K hK => ?_))
            go_simp
            refine hK _ _ ((hCC _ _ hC0 hwa).alloc (by have := hC0.size; have := hwa.size; omega) _) ?_
            clear hK K
            have nbC := Box.new (g := wa.heap.size) #[.slice none 0 0, .int .i64 0, .int .i64 0, .slice none 0 0] 25 wa rfl
            have n2B := (nbB.below hwa).old (.cells #[.slice none 0 0, .int .i64 0, .int .i64 0, .slice none 0 0] 25)
            have neBC : gB ≠ wa.heap.size := by have := (nbB.below hwa).lt; omega
            clear nbB
            have nbB := n2B
            clear n2B
            have n2A := (nbA.below hwa).old (.cells #[.slice none 0 0, .int .i64 0, .int .i64 0, .slice none 0 0] 25)
            have neAC : gA ≠ wa.heap.size := by have := (nbA.below hwa).lt; omega
            clear nbA
            have nbA := n2A
            clear n2A
            have hC1 := (hCC _ _ hC0 hwa).alloc (by have := hC0.size; have := hwa.size; omega) (.cells #[.slice none 0 0, .int .i64 0, .int .i64 0, .slice none 0 0] 25)
            have hgC : X3.heap.size ≤ wa.heap.size := Nat.le_trans hC0.size hwa.size
            clear hwa hC0
            obtain ⟨gC, hG⟩ : ∃ G, G = wa.heap.size := ⟨_, rfl⟩
            obtain ⟨wA, hWA⟩ : ∃ X, X = wa.alloc (.cells #[.slice none 0 0, .int .i64 0, .int .i64 0, .slice none 0 0] 25) := ⟨_, rfl⟩
            rw [← hG] at nbC hgC neBC neAC ⊢
            rw [← hWA] at nbC hC1 nbB nbA ⊢
            clear hG hWA
            have hC0 := hC1
            clear hC1
            (refine wpAnyG_one (i := 6) (by kernel_rfl) rfl (by rfl) (fun wb hwb K hK => ?_))
            refine wp_store_box (nbA.below hwb) rfl rfl rfl rfl (by kernel_rfl) (by simp [Value.oneCell']) (fun wc zb ho => ?_); dsimp only [Act.put]
            have n2B := ho.box (nbB.below hwb) neBA
            clear nbB
            have nbB := n2B
            clear n2B
            have n2C := ho.box (nbC.below hwb) (Ne.symm neAC)
            clear nbC
            have nbC := n2C
            clear n2C
            have hC1 := (hCC _ _ hC0 hwb).trans (ho.below hgA)
            refine hK _ _ hC1 ?_
            clear hK K hC0 hwb ho nbA
            have nbA := zb
            have hC0 := hC1
            clear hC1 zb
            (refine wpAnyG_one (i := 7) (by kernel_rfl) rfl (by rfl) (fun wb hwb K hK => ?_))
            refine wp_store_box (nbB.below hwb) rfl rfl rfl rfl (by kernel_rfl) (by simp [Value.oneCell']) (fun wc zb ho => ?_); dsimp only [Act.put]
            have n2A := ho.box (nbA.below hwb) (Ne.symm neBA)
            clear nbA
            have nbA := n2A
            clear n2A
            have n2C := ho.box (nbC.below hwb) (Ne.symm neBC)
            clear nbC
            have nbC := n2C
            clear n2C
            have hC1 := (hCC _ _ hC0 hwb).trans (ho.below hgB)
            refine hK _ _ hC1 ?_
            clear hK K hC0 hwb ho nbB
            have nbB := zb
            have hC0 := hC1
            clear hC1 zb
            (refine wpAnyG_one (i := 8) (by kernel_rfl) rfl (by rfl) (fun wb hwb K hK => ?_))
            refine wp_store_box (nbC.below hwb) rfl rfl rfl rfl (by kernel_rfl) (by simp [Value.oneCell']) (fun wc zb ho => ?_); dsimp only [Act.put]
            have n2A := ho.box (nbA.below hwb) neAC
            clear nbA
            have nbA := n2A
            clear n2A
            have n2B := ho.box (nbB.below hwb) neBC
            clear nbB
            have nbB := n2B
            clear n2B
            have hC1 := (hCC _ _ hC0 hwb).trans (ho.below hgC)
            refine hK _ _ hC1 ?_
            clear hK K hC0 hwb ho nbC
            have nbC := zb
            have hC0 := hC1
            clear hC1 zb
            refine wpAnyG_done (by kernel_rfl) (fun wz hwz => ?_) _
            go_wp2_with fail
            go_meet
            exact ⟨_, _, _, rfl, rfl, rfl, (Ne.symm neBA), neAC, neBC, hgA, hgB, hgC, hCC _ _ hC0 hwz, nbA.below hwz, nbB.below hwz, nbC.below hwz⟩
          · skip
            go_simp
            refine hK _ _ ((hCC _ _ hC0 hwa).alloc (by have := hC0.size; have := hwa.size; omega) _) ?_
            clear hK K
            have nbC := Box.new (g := wa.heap.size) #[.slice none 0 0, .int .i64 0, .int .i64 0, .slice none 0 0] 25 wa rfl
            have n2B := (nbB.below hwa).old (.cells #[.slice none 0 0, .int .i64 0, .int .i64 0, .slice none 0 0] 25)
            have neBC : gB ≠ wa.heap.size := by have := (nbB.below hwa).lt; omega
            clear nbB
            have nbB := n2B
            clear n2B
            have hC1 := (hCC _ _ hC0 hwa).alloc (by have := hC0.size; have := hwa.size; omega) (.cells #[.slice none 0 0, .int .i64 0, .int .i64 0, .slice none 0 0] 25)
            have hgC : X3.heap.size ≤ wa.heap.size := Nat.le_trans hC0.size hwa.size
            clear hwa hC0
            obtain ⟨gC, hG⟩ : ∃ G, G = wa.heap.size := ⟨_, rfl⟩
            obtain ⟨wA, hWA⟩ : ∃ X, X = wa.alloc (.cells #[.slice none 0 0, .int .i64 0, .int .i64 0, .slice none 0 0] 25) := ⟨_, rfl⟩
            rw [← hG] at nbC hgC neBC ⊢
            rw [← hWA] at nbC hC1 nbB ⊢
            clear hG hWA
            have hC0 := hC1
            clear hC1
            (refine wpAnyG_one (i := 3) (by kernel_rfl) rfl (by rfl) (fun wa hwa K hK => ?_))
            go_simp
            refine hK _ _ ((hCC _ _ hC0 hwa).alloc (by have := hC0.size; have := hwa.size; omega) _) ?_
            clear hK K
            have nbA := Box.new (g := wa.heap.size) #[.slice none 0 0, .int .i64 0, .int .i64 0, .slice none 0 0] 25 wa rfl
            have n2B := (nbB.below hwa).old (.cells #[.slice none 0 0, .int .i64 0, .int .i64 0, .slice none 0 0] 25)
            have neBA : gB ≠ wa.heap.size := by have := (nbB.below hwa).lt; omega
            clear nbB
            have nbB := n2B
            clear n2B
            have n2C := (nbC.below hwa).old (.cells #[.slice none 0 0, .int .i64 0, .int .i64 0, .slice none 0 0] 25)
            have neCA : gC ≠ wa.heap.size := by have := (nbC.below hwa).lt; omega
            clear nbC
            have nbC := n2C
            clear n2C
            have hC1 := (hCC _ _ hC0 hwa).alloc (by have := hC0.size; have := hwa.size; omega) (.cells #[.slice none 0 0, .int .i64 0, .int .i64 0, .slice none 0 0] 25)
            have hgA : X3.heap.size ≤ wa.heap.size := Nat.le_trans hC0.size hwa.size
            clear hwa hC0
            obtain ⟨gA, hG⟩ : ∃ G, G = wa.heap.size := ⟨_, rfl⟩
            obtain ⟨wA, hWA⟩ : ∃ X, X = wa.alloc (.cells #[.slice none 0 0, .int .i64 0, .int .i64 0, .slice none 0 0] 25) := ⟨_, rfl⟩
            rw [← hG] at nbA hgA neBA neCA ⊢
            rw [← hWA] at nbA hC1 nbB nbC ⊢
            clear hG hWA
            have hC0 := hC1
            clear hC1
            (refine wpAnyG_one (i := 6) (by kernel_rfl) rfl (by rfl) (fun wb hwb K hK => ?_))
            refine wp_store_box (nbA.below hwb) rfl rfl rfl rfl (by kernel_rfl) (by simp [Value.oneCell']) (fun wc zb ho => ?_); dsimp only [Act.put]
            have n2B := ho.box (nbB.below hwb) neBA
            clear nbB
            have nbB := n2B
            clear n2B
            have n2C := ho.box (nbC.below hwb) neCA
            clear nbC
            have nbC := n2C
            clear n2C
            have hC1 := (hCC _ _ hC0 hwb).trans (ho.below hgA)
            refine hK _ _ hC1 ?_
            clear hK K hC0 hwb ho nbA
            have nbA := zb
            have hC0 := hC1
            clear hC1 zb
            (refine wpAnyG_one (i := 7) (by kernel_rfl) rfl (by rfl) (fun wb hwb K hK => ?_))
            refine wp_store_box (nbB.below hwb) rfl rfl rfl rfl (by kernel_rfl) (by simp [Value.oneCell']) (fun wc zb ho => ?_); dsimp only [Act.put]
            have n2A := ho.box (nbA.below hwb) (Ne.symm neBA)
            clear nbA
            have nbA := n2A
            clear n2A
            have n2C := ho.box (nbC.below hwb) (Ne.symm neBC)
            clear nbC
            have nbC := n2C
            clear n2C
            have hC1 := (hCC _ _ hC0 hwb).trans (ho.below hgB)
            refine hK _ _ hC1 ?_
            clear hK K hC0 hwb ho nbB
            have nbB := zb
            have hC0 := hC1
            clear hC1 zb
            (refine wpAnyG_one (i := 8) (by kernel_rfl) rfl (by rfl) (fun wb hwb K hK => ?_))
            refine wp_store_box (nbC.below hwb) rfl rfl rfl rfl (by kernel_rfl) (by simp [Value.oneCell']) (fun wc zb ho => ?_); dsimp only [Act.put]
            have n2A := ho.box (nbA.below hwb) (Ne.symm neCA)
            clear nbA
            have nbA := n2A
            clear n2A
            have n2B := ho.box (nbB.below hwb) neBC
            clear nbB
            have nbB := n2B
            clear n2B
            have hC1 := (hCC _ _ hC0 hwb).trans (ho.below hgC)
            refine hK _ _ hC1 ?_
            clear hK K hC0 hwb ho nbC
            have nbC := zb
            have hC0 := hC1
            clear hC1 zb
            refine wpAnyG_done (by kernel_rfl) (fun wz hwz => ?_) _
            go_wp2_with fail
            go_meet
            exact ⟨_, _, _, rfl, rfl, rfl, (Ne.symm neBA), (Ne.symm neCA), neBC, hgA, hgB, hgC, hCC _ _ hC0 hwz, nbA.below hwz, nbB.below hwz, nbC.below hwz⟩
        · skip
          go_simp
          refine hK _ _ ((hCC _ _ hC0 hwa).alloc (by have := hC0.size; have := hwa.size; omega) _) ?_
          clear hK K
          have nbC := Box.new (g := wa.heap.size) #[.slice none 0 0, .int .i64 0, .int .i64 0, .slice none 0 0] 25 wa rfl
          have hC1 := (hCC _ _ hC0 hwa).alloc (by have := hC0.size; have := hwa.size; omega) (.cells #[.slice none 0 0, .int .i64 0, .int .i64 0, .slice none 0 0] 25)
          have hgC : X3.heap.size ≤ wa.heap.size := Nat.le_trans hC0.size hwa.size
          clear hwa hC0
          obtain ⟨gC, hG⟩ : ∃ G, G = wa.heap.size := ⟨_, rfl⟩
          obtain ⟨wA, hWA⟩ : ∃ X, X = wa.alloc (.cells #[.slice none 0 0, .int .i64 0, .int .i64 0, .slice none 0 0] 25) := ⟨_, rfl⟩
          rw [← hG] at nbC hgC  ⊢
          rw [← hWA] at nbC hC1  ⊢
          clear hG hWA
          have hC0 := hC1
          clear hC1
          (refine wpAnyG_two (i := 3) (k := 4) (by kernel_rfl) rfl rfl (by rfl) (by rfl) (fun wa hwa K hK => ?_) (fun wa hwa K hK => ?_))
          · skip
            go_simp
            refine hK _ _ ((hCC _ _ hC0 hwa).alloc (by have := hC0.size; have := hwa.size; omega) _) ?_
            clear hK K
            have nbA := Box.new (g := wa.heap.size) #[.slice none 0 0, .int .i64 0, .int .i64 0, .slice none 0 0] 25 wa rfl
            have n2C := (nbC.below hwa).old (.cells #[.slice none 0 0, .int .i64 0, .int .i64 0, .slice none 0 0] 25)
            have neCA : gC ≠ wa.heap.size := by have := (nbC.below hwa).lt; omega
            clear nbC
            have nbC := n2C
            clear n2C
            have hC1 := (hCC _ _ hC0 hwa).alloc (by have := hC0.size; have := hwa.size; omega) (.cells #[.slice none 0 0, .int .i64 0, .int .i64 0, .slice none 0 0] 25)
            have hgA : X3.heap.size ≤ wa.heap.size := Nat.le_trans hC0.size hwa.size
            clear hwa hC0
            obtain ⟨gA, hG⟩ : ∃ G, G = wa.heap.size := ⟨_, rfl⟩
            obtain ⟨wA, hWA⟩ : ∃ X, X = wa.alloc (.cells #[.slice none 0 0, .int .i64 0, .int .i64 0, .slice none 0 0] 25) := ⟨_, rfl⟩
            rw [← hG] at nbA hgA neCA ⊢
            rw [← hWA] at nbA hC1 nbC ⊢
            clear hG hWA
            have hC0 := hC1
            clear hC1
            (refine wpAnyG_one (i := 4) (by kernel_rfl) rfl (by rfl) (fun wa hwa K hK => ?_))
            go_simp
            refine hK _ _ ((hCC _ _ hC0 hwa).alloc (by have := hC0.size; have := hwa.size; omega) _) ?_
            clear hK K
            have nbB := Box.new (g := wa.heap.size) #[.slice none 0 0, .int .i64 0, .int .i64 0, .slice none 0 0] 25 wa rfl
            have n2C := (nbC.below hwa).old (.cells #[.slice none 0 0, .int .i64 0, .int .i64 0, .slice none 0 0] 25)
            have neCB : gC ≠ wa.heap.size := by have := (nbC.below hwa).lt; omega
            clear nbC
            have nbC := n2C
            clear n2C
            have n2A := (nbA.below hwa).old (.cells #[.slice none 0 0, .int .i64 0, .int .i64 0, .slice none 0 0] 25)
            have neAB : gA ≠ wa.heap.size := by have := (nbA.below hwa).lt; omega
            clear nbA
            have nbA := n2A
            clear n2A
            have hC1 := (hCC _ _ hC0 hwa).alloc (by have := hC0.size; have := hwa.size; omega) (.cells #[.slice none 0 0, .int .i64 0, .int .i64 0, .slice none 0 0] 25)
            have hgB : X3.heap.size ≤ wa.heap.size := Nat.le_trans hC0.size hwa.size
            clear hwa hC0
            obtain ⟨gB, hG⟩ : ∃ G, G = wa.heap.size := ⟨_, rfl⟩
            obtain ⟨wA, hWA⟩ : ∃ X, X = wa.alloc (.cells #[.slice none 0 0, .int .i64 0, .int .i64 0, .slice none 0 0] 25) := ⟨_, rfl⟩
            rw [← hG] at nbB hgB neCB neAB ⊢
            rw [← hWA] at nbB hC1 nbC nbA ⊢
            clear hG hWA
            have hC0 := hC1
            clear hC1
            (refine wpAnyG_one (i := 6) (by kernel_rfl) rfl (by rfl) (fun wb hwb K hK => ?_))
            refine wp_store_box (nbA.below hwb) rfl rfl rfl rfl (by kernel_rfl) (by simp [Value.oneCell']) (fun wc zb ho => ?_); dsimp only [Act.put]
            have n2B := ho.box (nbB.below hwb) (Ne.symm neAB)
            clear nbB
            have nbB := n2B
            clear n2B
            have n2C := ho.box (nbC.below hwb) neCA
            clear nbC
            have nbC := n2C
            clear n2C
            have hC1 := (hCC _ _ hC0 hwb).trans (ho.below hgA)
            refine hK _ _ hC1 ?_
            clear hK K hC0 hwb ho nbA
            have nbA := zb
            have hC0 := hC1
            clear hC1 zb
            (refine wpAnyG_one (i := 7) (by kernel_rfl) rfl (by rfl) (fun wb hwb K hK => ?_))
            refine wp_store_box (nbB.below hwb) rfl rfl rfl rfl (by kernel_rfl) (by simp [Value.oneCell']) (fun wc zb ho => ?_); dsimp only [Act.put]
            have n2A := ho.box (nbA.below hwb) neAB
            clear nbA
            have nbA := n2A
            clear n2A
            have n2C := ho.box (nbC.below hwb) neCB
            clear nbC
            have nbC := n2C
            clear n2C
            have hC1 := (hCC _ _ hC0 hwb).trans (ho.below hgB)
            refine hK _ _ hC1 ?_
            clear hK K hC0 hwb ho nbB
            have nbB := zb
            have hC0 := hC1
            clear hC1 zb
            (refine wpAnyG_one (i := 8) (by kernel_rfl) rfl (by rfl) (fun wb hwb K hK => ?_))
            refine wp_store_box (nbC.below hwb) rfl rfl rfl rfl (by kernel_rfl) (by simp [Value.oneCell']) (fun wc zb ho => ?_); dsimp only [Act.put]
            have n2A := ho.box (nbA.below hwb) (Ne.symm neCA)
            clear nbA
            have nbA := n2A
            clear n2A
            have n2B := ho.box (nbB.below hwb) (Ne.symm neCB)
            clear nbB
            have nbB := n2B
            clear n2B
            have hC1 := (hCC _ _ hC0 hwb).trans (ho.below hgC)
            refine hK _ _ hC1 ?_
            clear hK K hC0 hwb ho nbC
            have nbC := zb
            have hC0 := hC1
            clear hC1 zb
            refine wpAnyG_done (by kernel_rfl) (fun wz hwz => ?_) _
            go_wp2_with fail
            go_meet
            exact ⟨_, _, _, rfl, rfl, rfl, neAB, (Ne.symm neCA), (Ne.symm neCB), hgA, hgB, hgC, hCC _ _ hC0 hwz, nbA.below hwz, nbB.below hwz, nbC.below hwz⟩
          · skip
            go_simp
            refine hK _ _ ((hCC _ _ hC0 hwa).alloc (by have := hC0.size; have := hwa.size; omega) _) ?_
            clear hK K
            have nbB := Box.new (g := wa.heap.size) #[.slice none 0 0, .int .i64 0, .int .i64 0, .slice none 0 0] 25 wa rfl
            have n2C := (nbC.below hwa).old (.cells #[.slice none 0 0, .int .i64 0, .int .i64 0, .slice none 0 0] 25)
            have neCB : gC ≠ wa.heap.size := by have := (nbC.below hwa).lt; omega
            clear nbC
            have nbC := n2C
            clear n2C
            have hC1 := (hCC _ _ hC0 hwa).alloc (by have := hC0.size; have := hwa.size; omega) (.cells #[.slice none 0 0, .int .i64 0, .int .i64 0, .slice none 0 0] 25)
            have hgB : X3.heap.size ≤ wa.heap.size := Nat.le_trans hC0.size hwa.size
            clear hwa hC0
            obtain ⟨gB, hG⟩ : ∃ G, G = wa.heap.size := ⟨_, rfl⟩
            obtain ⟨wA, hWA⟩ : ∃ X, X = wa.alloc (.cells #[.slice none 0 0, .int .i64 0, .int .i64 0, .slice none 0 0] 25) := ⟨_, rfl⟩
            rw [← hG] at nbB hgB neCB ⊢
            rw [← hWA] at nbB hC1 nbC ⊢
            clear hG hWA
            have hC0 := hC1
            clear hC1
            (refine wpAnyG_one (i := 3) (by kernel_rfl) rfl (by rfl) (fun wa hwa K hK => ?_))
            go_simp
            refine hK _ _ ((hCC _ _ hC0 hwa).alloc (by have := hC0.size; have := hwa.size; omega) _) ?_
            clear hK K
            have nbA := Box.new (g := wa.heap.size) #[.slice none 0 0, .int .i64 0, .int .i64 0, .slice none 0 0] 25 wa rfl
            have n2C := (nbC.below hwa).old (.cells #[.slice none 0 0, .int .i64 0, .int .i64 0, .slice none 0 0] 25)
            have neCA : gC ≠ wa.heap.size := by have := (nbC.below hwa).lt; omega
            clear nbC
            have nbC := n2C
            clear n2C
            have n2B := (nbB.below hwa).old (.cells #[.slice none 0 0, .int .i64 0, .int .i64 0, .slice none 0 0] 25)
            have neBA : gB ≠ wa.heap.size := by have := (nbB.below hwa).lt; omega
            clear nbB
            have nbB := n2B
            clear n2B
            have hC1 := (hCC _ _ hC0 hwa).alloc (by have := hC0.size; have := hwa.size; omega) (.cells #[.slice none 0 0, .int .i64 0, .int .i64 0, .slice none 0 0] 25)
            have hgA : X3.heap.size ≤ wa.heap.size := Nat.le_trans hC0.size hwa.size
            clear hwa hC0
            obtain ⟨gA, hG⟩ : ∃ G, G = wa.heap.size := ⟨_, rfl⟩
            obtain ⟨wA, hWA⟩ : ∃ X, X = wa.alloc (.cells #[.slice none 0 0, .int .i64 0, .int .i64 0, .slice none 0 0] 25) := ⟨_, rfl⟩
            rw [← hG] at nbA hgA neCA neBA ⊢
            rw [← hWA] at nbA hC1 nbC nbB ⊢
            clear hG hWA
            have hC0 := hC1
            clear hC1
            (refine wpAnyG_one (i := 6) (by kernel_rfl) rfl (by rfl) (fun wb hwb K hK => ?_))
            refine wp_store_box (nbA.below hwb) rfl rfl rfl rfl (by kernel_rfl) (by simp [Value.oneCell']) (fun wc zb ho => ?_); dsimp only [Act.put]
            have n2B := ho.box (nbB.below hwb) neBA
            clear nbB
            have nbB := n2B
            clear n2B
            have n2C := ho.box (nbC.below hwb) neCA
            clear nbC
            have nbC := n2C
            clear n2C
            have hC1 := (hCC _ _ hC0 hwb).trans (ho.below hgA)
            refine hK _ _ hC1 ?_
            clear hK K hC0 hwb ho nbA
            have nbA := zb
            have hC0 := hC1
            clear hC1 zb
            (refine wpAnyG_one (i := 7) (by kernel_rfl) rfl (by rfl) (fun wb hwb K hK => ?_))
            refine wp_store_box (nbB.below hwb) rfl rfl rfl rfl (by kernel_rfl) (by simp [Value.oneCell']) (fun wc zb ho => ?_); dsimp only [Act.put]
            have n2A := ho.box (nbA.below hwb) (Ne.symm neBA)
            clear nbA
            have nbA := n2A
            clear n2A
            have n2C := ho.box (nbC.below hwb) neCB
            clear nbC
            have nbC := n2C
            clear n2C
            have hC1 := (hCC _ _ hC0 hwb).trans (ho.below hgB)
            refine hK _ _ hC1 ?_
            clear hK K hC0 hwb ho nbB
            have nbB := zb
            have hC0 := hC1
            clear hC1 zb
            (refine wpAnyG_one (i := 8) (by kernel_rfl) rfl (by rfl) (fun wb hwb K hK => ?_))
            refine wp_store_box (nbC.below hwb) rfl rfl rfl rfl (by kernel_rfl) (by simp [Value.oneCell']) (fun wc zb ho => ?_); dsimp only [Act.put]
            have n2A := ho.box (nbA.below hwb) (Ne.symm neCA)
            clear nbA
            have nbA := n2A
            clear n2A
            have n2B := ho.box (nbB.below hwb) (Ne.symm neCB)
            clear nbB
            have nbB := n2B
            clear n2B
            have hC1 := (hCC _ _ hC0 hwb).trans (ho.below hgC)
            refine hK _ _ hC1 ?_
            clear hK K hC0 hwb ho nbC
            have nbC := zb
            have hC0 := hC1
            clear hC1 zb
            refine wpAnyG_done (by kernel_rfl) (fun wz hwz => ?_) _
            go_wp2_with fail
            go_meet
            exact ⟨_, _, _, rfl, rfl, rfl, (Ne.symm neBA), (Ne.symm neCA), (Ne.symm neCB), hgA, hgB, hgC, hCC _ _ hC0 hwz, nbA.below hwz, nbB.below hwz, nbC.below hwz⟩
      case rest =>
        obtain ⟨gA, gB, gC, rfl, rfl, rfl, nAB, nAC, nBC, lgA, lgB, lgC, hbx, zA, zB, zC⟩ := hcut
        have I4 := Lib.hid (I3.out.on hbx)
        have ZA := Lib.hid zA
        have ZB := Lib.hid zB
        have ZC := Lib.hid zC
        have hX3 := (MI.low I3.out).size
        have hX3w := I3.out.hS.lt
        replace lgA : w.heap.size + 2 ≤ gA := by omega
        replace lgB : w.heap.size + 2 ≤ gB := by omega
        replace lgC : w.heap.size + 2 ≤ gC := by omega
        clear hbx zA zB zC I3 c0 c1 c2 c3 c4 hX3 hX3w
        obtain ⟨X4, hW⟩ : ∃ X, X = wc := ⟨_, rfl⟩
        rw [← hW] at I4 ZA ZB ZC ⊢
        clear hW
        go_upto_region 9 with fail
        have HS4 := Lib.hid I4.out.mem.s
        have HNB := Lib.hid (show ∀ a, 0 < t.m → ob = some a → a.block ≠ gA from fun a h0 ha => by obtain ⟨b9, o9, e9, hl9, -⟩ := HM.out.s 0 h0; rw [ha] at e9; cases e9; show b9 ≠ gA; omega)
        obtain ⟨iR, hiR, hzR0, hzR1, hzR2⟩ := info_parts (P := Tryd.prog) (e := 49) (z := .agg #[.int .i64 0, .int .i64 0, .int .i64 0]) (size := 3) (bytes := 24) (by kernel_rfl)
        go_cut [13] from 75 to 82 (fun s13 wx => ∃ oW cW, AR gA #[.slice oa t.n ca, .int .i64 t.leaks, .int .i64 t.least, .slice oW (t.m + 1) cW] X4 wx ∧ wx.ownsRow X4.heap.size 49 3 (.slice oW (t.m + 1) cW) (t.m + 1) (stpNews (t.rich s).m (t.rich s).s))
        case first =>
          have hCC : ∀ A B : World, (∃ cs, AR gA cs X4 A) → Below A.heap.size A B → (∃ cs, AR gA cs X4 B) := fun A B h1 h2 => h1.imp fun _ h => h.on h2
          have hC0 : AR gA #[.slice oa t.n ca, .int .i64 t.leaks, .int .i64 t.least, .slice ob t.m cb] X4 X4.drew := ⟨(Same.refl _ _).drew, ZA.out.drew, ZA.out.lt⟩
          refine wp_region_garb (fun A => ∃ cs, AR gA cs X4 A) (by kernel_rfl) ?_
          (refine wpAnyG_take (i := 1) hCC ⟨_, hC0⟩ rfl (by kernel_rfl) (by kernel_rfl) (by kernel_rfl) (fun _ _ _ _ h => h) (by rfl) ?_; apply Exists.intro; refine ⟨fun w1 h1 K hK => ?_, ?_⟩; · ( go_big_quiet_op; first | exact hK | fail))
          (refine wpAnyG_take (i := 2) hCC ⟨_, hC0⟩ rfl (by kernel_rfl) (by kernel_rfl) (by kernel_rfl) (fun _ _ _ _ h => h) (by rfl) ?_; apply Exists.intro; refine ⟨fun w1 h1 K hK => ?_, ?_⟩; · (have hZ : ∀ W : Aft w1, Same (fun b => b < X4.heap.size ∧ b ≠ gA) X4 W.val := fun W => (by obtain ⟨cs, h2⟩ := h1; exact (h2.on W.below).same);have zT : ∀ W : Aft w1, TB t oa ca ob cb w.heap.size W.val := fun W => I4.out.hT.same (hZ W) ⟨I4.out.hT.lt, by omega⟩; have g3 : ∀ W : Aft w1, W.val.cell? ⟨w.heap.size, 3, none⟩ = some (.slice ob t.m cb) := fun W => (zT W).cell 3 rfl; clear zT hZ; go_big_quiet_op; first | exact hK | fail))
          (refine wpAnyG_take (i := 4) hCC ⟨_, hC0⟩ rfl (by kernel_rfl) (by kernel_rfl) (by kernel_rfl) (fun _ _ _ _ h => h) (by rfl) ?_; apply Exists.intro; refine ⟨fun w1 h1 K hK => ?_, ?_⟩; · (have hZ : ∀ W : Aft w1, Same (fun b => b < X4.heap.size ∧ b ≠ gA) X4 W.val := fun W => (by obtain ⟨cs, h2⟩ := h1; exact (h2.on W.below).same);have zS : ∀ W : Aft w1, Box (w.heap.size + 1) #[.int .i64 s.shut, .int .i64 s.flow.lo, .int .i64 s.flow.hi] 49 W.val := fun W => I4.out.hS.same (hZ W) ⟨I4.out.hS.lt, by omega⟩; have g0 : ∀ W : Aft w1, W.val.cell? ⟨w.heap.size + 1, 0, none⟩ = some (.int .i64 s.shut) := fun W => (zS W).cell 0 rfl; have g1 : ∀ W : Aft w1, W.val.cell? ⟨w.heap.size + 1, 1, none⟩ = some (.int .i64 s.flow.lo) := fun W => (zS W).cell 1 rfl; have g2 : ∀ W : Aft w1, W.val.cell? ⟨w.heap.size + 1, 2, none⟩ = some (.int .i64 s.flow.hi) := fun W => (zS W).cell 2 rfl; clear zS hZ; go_big_quiet_op; first | exact hK | fail))
          (refine wpAnyG_two (i := 0) (k := 5) (by kernel_rfl) rfl rfl (by rfl) (by rfl) (fun wa hwa K hK => ?_) (fun wa hwa K hK => ?_))
          · skip
            go_simp
            have hA0 := (hC0.on hwa).on (below_alloc1 wa (.cells #[] 49))
            have hL0 : X4.heap.size ≤ wa.heap.size := Nat.le_trans hC0.same.size hwa.size
            refine hK _ _ ⟨_, hA0⟩ ?_
            clear hK K
            have hown : (wa.alloc (.cells #[] 49)).ownsRow X4.heap.size 49 3 (.slice (some ⟨wa.heap.size, 0, none⟩) 0 0) 0 [] := owns_empty hL0 (heap_new rfl)
            clear hwa hC0
            obtain ⟨g0, hG⟩ : ∃ G, G = wa.heap.size := ⟨_, rfl⟩
            obtain ⟨wA, hWA⟩ : ∃ X, X = wa.alloc (.cells #[] 49) := ⟨_, rfl⟩
            rw [← hWA] at hown hA0  ⊢
            rw [← hG] at hown hL0  ⊢
            clear hG hWA
            have hC0 := hA0
            clear hA0
            (refine wpAnyG_two (i := 3) (k := 5) (by kernel_rfl) rfl rfl (by rfl) (by rfl) (fun wa hwa K hK => ?_) (fun wa hwa K hK => ?_))
            · skip
              have hC1 := hC0.on hwa
              have hown1 := owns_below hown hwa
              have hs4 : StpsAt wa ob t.m t.s := HS4.out.same4 hC1 HNB.out
              refine wp_append_gen (.tmp 75) (.tmp 77) 23 rfl X4.heap.size 49 iR _ 3 24 Tryd.underlying23 hiR hzR0 hzR1 hzR2 rfl (by omega) (.slice (some ⟨g0, 0, none⟩) 0 0) 0 [] rfl hown1 ob t.m cb (stpNews t.m t.s) rfl HNIL.out (stpNews_length _ _) (stps_news hs4) stps_one (by simp only [maxLen]; omega) (by omega) hC1.same.size (fun vS wS hownS hgrowS => ?_)
              have hA0 := hC1.grown hown1 (Nat.le_refl _) hgrowS
              rw [List.nil_append, Nat.zero_add] at hownS
              clear hown1 hs4 hgrowS hC1 hown hwa hC0
              obtain ⟨oV, cV, rfl, -⟩ := owns_form hownS
              go_simp
              refine hK _ _ ⟨_, hA0⟩ ?_
              clear hK K
              have hC0 := hA0
              have hown := hownS
              clear hA0 hownS
              (refine wpAnyG_one (i := 5) (by kernel_rfl) rfl (by rfl) (fun wa hwa K hK => ?_))
              go_simp
              have hA0 := (hC0.on hwa).on (below_alloc1 wa (.cells #[.int .i64 s.shut, .int .i64 s.flow.lo, .int .i64 s.flow.hi] 49))
              refine hK _ _ ⟨_, hA0⟩ ?_
              clear hK K
              have zN := Box.new (g := wa.heap.size) #[.int .i64 s.shut, .int .i64 s.flow.lo, .int .i64 s.flow.hi] 49 wa rfl
              have hown2 := owns_below (owns_below hown hwa) (below_alloc1 wa (.cells #[.int .i64 s.shut, .int .i64 s.flow.lo, .int .i64 s.flow.hi] 49))
              clear hown
              clear hwa hC0
              obtain ⟨gN, hG⟩ : ∃ G, G = wa.heap.size := ⟨_, rfl⟩
              obtain ⟨wA, hWA⟩ : ∃ X, X = wa.alloc (.cells #[.int .i64 s.shut, .int .i64 s.flow.lo, .int .i64 s.flow.hi] 49) := ⟨_, rfl⟩
              rw [← hWA] at zN hA0 hown2 ⊢
              rw [← hG] at zN  ⊢
              clear hG hWA
              have hC0 := hA0
              clear hA0
              have hown := hown2
              clear hown2
              (refine wpAnyG_one (i := 6) (by kernel_rfl) rfl (by rfl) (fun wa hwa K hK => ?_))
              have hC1 := hC0.on hwa
              have hown1 := owns_below hown hwa
              have zN1 := zN.below hwa
              refine wp_append_gen (.tmp 78) (.tmp 80) 23 rfl X4.heap.size 49 iR _ 3 24 Tryd.underlying23 hiR hzR0 hzR1 hzR2 rfl (by omega) (.slice oV t.m cV) t.m (stpNews t.m t.s) rfl hown1 (some ⟨gN, 0, none⟩) 1 1 [.int .i64 s.shut, .int .i64 s.flow.lo, .int .i64 s.flow.hi] rfl (fun e9 => by cases e9) rfl (fun ad9 e9 j9 u9 hu9 => by cases e9; rw [add_flat, Nat.zero_add]; exact zN1.cell j9 (by rw [List.getElem?_toArray]; exact hu9)) (by simp [Value.oneCell']) (by simp only [maxLen]; omega) (by omega) hC1.same.size (fun vS wS hownS hgrowS => ?_)
              have hA0 := hC1.grown hown1 (Nat.le_refl _) hgrowS
              rw [stpNews_rich] at hownS
              clear hown1 hgrowS hC1 hown hwa hC0 zN1 zN
              obtain ⟨oW, cW, rfl, -⟩ := owns_form hownS
              go_simp
              refine hK _ _ ⟨_, hA0⟩ ?_
              clear hK K
              (refine wpAnyG_one (i := 7) (by kernel_rfl) rfl (by rfl) (fun wb hwb K hK => ?_))
              go_simp
              refine hK _ _ ⟨_, hA0.on hwb⟩ ?_
              clear hK K
              (refine wpAnyG_one (i := 8) (by kernel_rfl) rfl (by rfl) (fun wc hwc K hK => ?_))
              have hA1 := (hA0.on hwb).on hwc
              have hownT := owns_below (owns_below hownS hwb) hwc
              refine wp_store_slice hA1.box rfl rfl rfl (by simp) (by kernel_rfl) (fun wd zd ho => ?_)
              dsimp only [Act.put]
              have hownU := owns_but hownT ho.but (own_ne hownT hA1.box (by decide))
              have hsd : Same (fun b => b < X4.heap.size ∧ b ≠ gA) X4 wd := hA1.same.trans ⟨ho.os, ho.tape, ho.output, Nat.le_of_eq ho.size.symm, fun b _ hp => ho.block b hp.2⟩
              have hA2 : AR gA #[.slice oa t.n ca, .int .i64 t.leaks, .int .i64 t.least, .slice oW (t.m + 1) cW] X4 wd := ⟨hsd, zd, hA1.lt⟩
              refine hK _ _ ⟨_, hA2⟩ ?_
              clear hK K
              refine wpAnyG_done (by kernel_rfl) (fun wz hwz => ?_) _
              go_wp2_with fail
              go_meet
              exact ⟨oW, cW, hA2.on hwz, owns_below hownU hwz⟩
            · skip
              go_simp
              have hA0 := (hC0.on hwa).on (below_alloc1 wa (.cells #[.int .i64 s.shut, .int .i64 s.flow.lo, .int .i64 s.flow.hi] 49))
              refine hK _ _ ⟨_, hA0⟩ ?_
              clear hK K
              have zN := Box.new (g := wa.heap.size) #[.int .i64 s.shut, .int .i64 s.flow.lo, .int .i64 s.flow.hi] 49 wa rfl
              have hown2 := owns_below (owns_below hown hwa) (below_alloc1 wa (.cells #[.int .i64 s.shut, .int .i64 s.flow.lo, .int .i64 s.flow.hi] 49))
              have hne : wa.heap.size ≠ g0 := by have := (owns_below hown hwa).lt g0 rfl; omega
              clear hown
              clear hwa hC0
              obtain ⟨gN, hG⟩ : ∃ G, G = wa.heap.size := ⟨_, rfl⟩
              obtain ⟨wA, hWA⟩ : ∃ X, X = wa.alloc (.cells #[.int .i64 s.shut, .int .i64 s.flow.lo, .int .i64 s.flow.hi] 49) := ⟨_, rfl⟩
              rw [← hWA] at zN hA0 hown2 ⊢
              rw [← hG] at zN hne ⊢
              clear hG hWA
              have hC0 := hA0
              clear hA0
              have hown := hown2
              clear hown2
              (refine wpAnyG_one (i := 3) (by kernel_rfl) rfl (by rfl) (fun wa hwa K hK => ?_))
              have hC1 := hC0.on hwa
              have hown1 := owns_below hown hwa
              have hs4 : StpsAt wa ob t.m t.s := HS4.out.same4 hC1 HNB.out
              refine wp_append_gen (.tmp 75) (.tmp 77) 23 rfl X4.heap.size 49 iR _ 3 24 Tryd.underlying23 hiR hzR0 hzR1 hzR2 rfl (by omega) (.slice (some ⟨g0, 0, none⟩) 0 0) 0 [] rfl hown1 ob t.m cb (stpNews t.m t.s) rfl HNIL.out (stpNews_length _ _) (stps_news hs4) stps_one (by simp only [maxLen]; omega) (by omega) hC1.same.size (fun vS wS hownS hgrowS => ?_)
              have hA0 := hC1.grown hown1 (Nat.le_refl _) hgrowS
              rw [List.nil_append, Nat.zero_add] at hownS
              have zN2 : Box gN #[.int .i64 s.shut, .int .i64 s.flow.lo, .int .i64 s.flow.hi] 49 wS := ⟨(hgrowS.block gN (zN.below hwa).lt (by simp only [Value.ownBlock, ne_eq, Option.some.injEq]; exact hne)).trans (zN.below hwa).row⟩
              clear zN
              have zN := zN2
              clear zN2
              clear hown1 hs4 hgrowS hC1 hown hwa hC0
              obtain ⟨oV, cV, rfl, -⟩ := owns_form hownS
              go_simp
              refine hK _ _ ⟨_, hA0⟩ ?_
              clear hK K
              have hC0 := hA0
              have hown := hownS
              clear hA0 hownS
              (refine wpAnyG_one (i := 6) (by kernel_rfl) rfl (by rfl) (fun wa hwa K hK => ?_))
              have hC1 := hC0.on hwa
              have hown1 := owns_below hown hwa
              have zN1 := zN.below hwa
              refine wp_append_gen (.tmp 78) (.tmp 80) 23 rfl X4.heap.size 49 iR _ 3 24 Tryd.underlying23 hiR hzR0 hzR1 hzR2 rfl (by omega) (.slice oV t.m cV) t.m (stpNews t.m t.s) rfl hown1 (some ⟨gN, 0, none⟩) 1 1 [.int .i64 s.shut, .int .i64 s.flow.lo, .int .i64 s.flow.hi] rfl (fun e9 => by cases e9) rfl (fun ad9 e9 j9 u9 hu9 => by cases e9; rw [add_flat, Nat.zero_add]; exact zN1.cell j9 (by rw [List.getElem?_toArray]; exact hu9)) (by simp [Value.oneCell']) (by simp only [maxLen]; omega) (by omega) hC1.same.size (fun vS wS hownS hgrowS => ?_)
              have hA0 := hC1.grown hown1 (Nat.le_refl _) hgrowS
              rw [stpNews_rich] at hownS
              clear hown1 hgrowS hC1 hown hwa hC0 zN1 zN
              obtain ⟨oW, cW, rfl, -⟩ := owns_form hownS
              go_simp
              refine hK _ _ ⟨_, hA0⟩ ?_
              clear hK K
              (refine wpAnyG_one (i := 7) (by kernel_rfl) rfl (by rfl) (fun wb hwb K hK => ?_))
              go_simp
              refine hK _ _ ⟨_, hA0.on hwb⟩ ?_
              clear hK K
              (refine wpAnyG_one (i := 8) (by kernel_rfl) rfl (by rfl) (fun wc hwc K hK => ?_))
              have hA1 := (hA0.on hwb).on hwc
              have hownT := owns_below (owns_below hownS hwb) hwc
              refine wp_store_slice hA1.box rfl rfl rfl (by simp) (by kernel_rfl) (fun wd zd ho => ?_)
              dsimp only [Act.put]
              have hownU := owns_but hownT ho.but (own_ne hownT hA1.box (by decide))
              have hsd : Same (fun b => b < X4.heap.size ∧ b ≠ gA) X4 wd := hA1.same.trans ⟨ho.os, ho.tape, ho.output, Nat.le_of_eq ho.size.symm, fun b _ hp => ho.block b hp.2⟩
              have hA2 : AR gA #[.slice oa t.n ca, .int .i64 t.leaks, .int .i64 t.least, .slice oW (t.m + 1) cW] X4 wd := ⟨hsd, zd, hA1.lt⟩
              refine hK _ _ ⟨_, hA2⟩ ?_
              clear hK K
              refine wpAnyG_done (by kernel_rfl) (fun wz hwz => ?_) _
              go_wp2_with fail
              go_meet
              exact ⟨oW, cW, hA2.on hwz, owns_below hownU hwz⟩
          · skip
            go_simp
            have hA0 := (hC0.on hwa).on (below_alloc1 wa (.cells #[.int .i64 s.shut, .int .i64 s.flow.lo, .int .i64 s.flow.hi] 49))
            refine hK _ _ ⟨_, hA0⟩ ?_
            clear hK K
            have zN := Box.new (g := wa.heap.size) #[.int .i64 s.shut, .int .i64 s.flow.lo, .int .i64 s.flow.hi] 49 wa rfl
            clear hwa hC0
            obtain ⟨gN, hG⟩ : ∃ G, G = wa.heap.size := ⟨_, rfl⟩
            obtain ⟨wA, hWA⟩ : ∃ X, X = wa.alloc (.cells #[.int .i64 s.shut, .int .i64 s.flow.lo, .int .i64 s.flow.hi] 49) := ⟨_, rfl⟩
            rw [← hWA] at zN hA0  ⊢
            rw [← hG] at zN  ⊢
            clear hG hWA
            have hC0 := hA0
            clear hA0
            (refine wpAnyG_one (i := 0) (by kernel_rfl) rfl (by rfl) (fun wa hwa K hK => ?_))
            go_simp
            have hA0 := (hC0.on hwa).on (below_alloc1 wa (.cells #[] 49))
            have hL0 : X4.heap.size ≤ wa.heap.size := Nat.le_trans hC0.same.size hwa.size
            refine hK _ _ ⟨_, hA0⟩ ?_
            clear hK K
            have hown : (wa.alloc (.cells #[] 49)).ownsRow X4.heap.size 49 3 (.slice (some ⟨wa.heap.size, 0, none⟩) 0 0) 0 [] := owns_empty hL0 (heap_new rfl)
            have zN2 := (zN.below hwa).old (.cells #[] 49)
            have hne : gN ≠ wa.heap.size := by have := (zN.below hwa).lt; omega
            clear zN
            clear hwa hC0
            obtain ⟨g0, hG⟩ : ∃ G, G = wa.heap.size := ⟨_, rfl⟩
            obtain ⟨wA, hWA⟩ : ∃ X, X = wa.alloc (.cells #[] 49) := ⟨_, rfl⟩
            rw [← hWA] at hown hA0 zN2 ⊢
            rw [← hG] at hown hL0 hne ⊢
            clear hG hWA
            have hC0 := hA0
            clear hA0
            have zN := zN2
            clear zN2
            (refine wpAnyG_one (i := 3) (by kernel_rfl) rfl (by rfl) (fun wa hwa K hK => ?_))
            have hC1 := hC0.on hwa
            have hown1 := owns_below hown hwa
            have hs4 : StpsAt wa ob t.m t.s := HS4.out.same4 hC1 HNB.out
            refine wp_append_gen (.tmp 75) (.tmp 77) 23 rfl X4.heap.size 49 iR _ 3 24 Tryd.underlying23 hiR hzR0 hzR1 hzR2 rfl (by omega) (.slice (some ⟨g0, 0, none⟩) 0 0) 0 [] rfl hown1 ob t.m cb (stpNews t.m t.s) rfl HNIL.out (stpNews_length _ _) (stps_news hs4) stps_one (by simp only [maxLen]; omega) (by omega) hC1.same.size (fun vS wS hownS hgrowS => ?_)
            have hA0 := hC1.grown hown1 (Nat.le_refl _) hgrowS
            rw [List.nil_append, Nat.zero_add] at hownS
            have zN2 : Box gN #[.int .i64 s.shut, .int .i64 s.flow.lo, .int .i64 s.flow.hi] 49 wS := ⟨(hgrowS.block gN (zN.below hwa).lt (by simp only [Value.ownBlock, ne_eq, Option.some.injEq]; exact hne)).trans (zN.below hwa).row⟩
            clear zN
            have zN := zN2
            clear zN2
            clear hown1 hs4 hgrowS hC1 hown hwa hC0
            obtain ⟨oV, cV, rfl, -⟩ := owns_form hownS
            go_simp
            refine hK _ _ ⟨_, hA0⟩ ?_
            clear hK K
            have hC0 := hA0
            have hown := hownS
            clear hA0 hownS
            (refine wpAnyG_one (i := 6) (by kernel_rfl) rfl (by rfl) (fun wa hwa K hK => ?_))
            have hC1 := hC0.on hwa
            have hown1 := owns_below hown hwa
            have zN1 := zN.below hwa
            refine wp_append_gen (.tmp 78) (.tmp 80) 23 rfl X4.heap.size 49 iR _ 3 24 Tryd.underlying23 hiR hzR0 hzR1 hzR2 rfl (by omega) (.slice oV t.m cV) t.m (stpNews t.m t.s) rfl hown1 (some ⟨gN, 0, none⟩) 1 1 [.int .i64 s.shut, .int .i64 s.flow.lo, .int .i64 s.flow.hi] rfl (fun e9 => by cases e9) rfl (fun ad9 e9 j9 u9 hu9 => by cases e9; rw [add_flat, Nat.zero_add]; exact zN1.cell j9 (by rw [List.getElem?_toArray]; exact hu9)) (by simp [Value.oneCell']) (by simp only [maxLen]; omega) (by omega) hC1.same.size (fun vS wS hownS hgrowS => ?_)
            have hA0 := hC1.grown hown1 (Nat.le_refl _) hgrowS
            rw [stpNews_rich] at hownS
            clear hown1 hgrowS hC1 hown hwa hC0 zN1 zN
            obtain ⟨oW, cW, rfl, -⟩ := owns_form hownS
            go_simp
            refine hK _ _ ⟨_, hA0⟩ ?_
            clear hK K
            (refine wpAnyG_one (i := 7) (by kernel_rfl) rfl (by rfl) (fun wb hwb K hK => ?_))
            go_simp
            refine hK _ _ ⟨_, hA0.on hwb⟩ ?_
            clear hK K
            (refine wpAnyG_one (i := 8) (by kernel_rfl) rfl (by rfl) (fun wc hwc K hK => ?_))
            have hA1 := (hA0.on hwb).on hwc
            have hownT := owns_below (owns_below hownS hwb) hwc
            refine wp_store_slice hA1.box rfl rfl rfl (by simp) (by kernel_rfl) (fun wd zd ho => ?_)
            dsimp only [Act.put]
            have hownU := owns_but hownT ho.but (own_ne hownT hA1.box (by decide))
            have hsd : Same (fun b => b < X4.heap.size ∧ b ≠ gA) X4 wd := hA1.same.trans ⟨ho.os, ho.tape, ho.output, Nat.le_of_eq ho.size.symm, fun b _ hp => ho.block b hp.2⟩
            have hA2 : AR gA #[.slice oa t.n ca, .int .i64 t.leaks, .int .i64 t.least, .slice oW (t.m + 1) cW] X4 wd := ⟨hsd, zd, hA1.lt⟩
            refine hK _ _ ⟨_, hA2⟩ ?_
            clear hK K
            refine wpAnyG_done (by kernel_rfl) (fun wz hwz => ?_) _
            go_wp2_with fail
            go_meet
            exact ⟨oW, cW, hA2.on hwz, owns_below hownU hwz⟩
        case rest =>
          obtain ⟨oW, cW, hA, hown⟩ := hcut
          obtain ⟨X5, hW⟩ : ∃ X, X = wc := ⟨_, rfl⟩
          rw [← hW] at hA hown ⊢
          clear hW
          have hl5 : Below w.heap.size w X5 := by
            have h4 := I4.out.low
            refine ⟨hA.same.os.trans h4.os, hA.same.tape.trans h4.tape, hA.same.output.trans h4.output, Nat.le_trans h4.size hA.same.size, fun k9 hk9 => ?_⟩
            rw [hA.same.block k9 (by have := h4.size; omega) ⟨by have := h4.size; omega, by omega⟩]
            exact h4.block k9 hk9
          have I5 := Lib.hid (show MI t s oa ca ob cb w X5 from ⟨hl5, I4.out.hT.same hA.same ⟨I4.out.hT.lt, by omega⟩, I4.out.hS.same hA.same ⟨I4.out.hS.lt, by omega⟩, HM.out.on hl5⟩)
          have ZA5 := Lib.hid hA.box
          have ZB5 := Lib.hid (ZB.out.same hA.same ⟨ZB.out.lt, Ne.symm nAB⟩)
          have ZC5 := Lib.hid (ZC.out.same hA.same ⟨ZC.out.lt, Ne.symm nAC⟩)
          obtain ⟨oa9, ca9, e9, hst⟩ := owns_stps hown
          cases e9
          have hob : ∀ a9, 0 < t.m + 1 → oW = some a9 → a9.block ≠ gA ∧ a9.block ≠ gB ∧ a9.block ≠ gC := fun a9 _ ha9 => by
            subst ha9
            have h9 := (hown.lt a9.block rfl).1
            have h8 := ZA.out.lt
            have h7 := ZB.out.lt
            have h6 := ZC.out.lt
            omega
          have HST := Lib.hid hst
          have HOB := Lib.hid hob
          clear hA hown hst hob hl5 I4 ZA ZB ZC HS4 HNB iR hiR hzR0 hzR1 hzR2
          obtain ⟨c0, c1, c2, c3, c4⟩ := TB.cells I5.out.hT
          have b1 := ZB5.out.cell 1 (v := .int .i64 t.leaks) rfl
          have b2 := ZB5.out.lt
          have b3 := ZB5.out.frozen 1
          have d1 := ZC5.out.cell 2 (v := .int .i64 t.least) rfl
          have d2 := ZC5.out.lt
          have d3 := ZC5.out.frozen 2
          have hl0 := hk.out.l0
          have hl1 := hk.out.l1
          have he0 := hk.out.e0
          have he1 := hk.out.e1
          go_upto_region 12 with fail
          have e10 : (if t.leaks + 1 < 2 then t.leaks + 1 else 2) = t.doubt.leaks := by show _ = min 2 (t.leaks + 1); split <;> omega
          have e11 : (if 1 < t.least - (z : Int) then t.least - (z : Int) else 1) = (t.low z).least := by show _ = max 1 (t.least - (z : Int)); split <;> omega
          rw [e10, e11]
          clear e10 e11 b1 b2 b3 d1 d2 d3 hl0 hl1 he0 he1 c0 c1 c2 c3 c4
          have ho1 := (Only.refl gB X5).setCell 1 (.int .i64 t.doubt.leaks)
          have ho2 := (Only.refl gC (X5.setCell ⟨gB, 1, none⟩ (.int .i64 t.doubt.leaks))).setCell 2 (.int .i64 (t.low z).least)
          have hl6 : Below w.heap.size w ((X5.setCell ⟨gB, 1, none⟩ (.int .i64 t.doubt.leaks)).setCell ⟨gC, 2, none⟩ (.int .i64 (t.low z).least)) := (I5.out.low.trans (ho1.below (by omega))).trans (ho2.below (by omega))
          have HL6 := Lib.hid hl6
          have ZA6 := Lib.hid (ho2.box (ho1.box ZA5.out nAB) nAC)
          have ZB6 := Lib.hid (ho2.box (ZB5.out.set 1 (.int .i64 t.doubt.leaks)) nBC)
          have ZC6 := Lib.hid ((ho1.box ZC5.out (Ne.symm nBC)).set 2 (.int .i64 (t.low z).least))
          have HS6 := Lib.hid (show StpsAt ((X5.setCell ⟨gB, 1, none⟩ (.int .i64 t.doubt.leaks)).setCell ⟨gC, 2, none⟩ (.int .i64 (t.low z).least)) oW (t.m + 1) (t.rich s).s from stps_only (stps_only HST.out ho1 fun a9 h0 ha9 => (HOB.out a9 h0 ha9).2.1) ho2 fun a9 h0 ha9 => (HOB.out a9 h0 ha9).2.2)
          clear ho1 ho2 hl6 I5 ZA5 ZB5 ZC5 HST HOB
          obtain ⟨X6, hW⟩ : ∃ X, X = ((X5.setCell ⟨gB, 1, none⟩ (.int .i64 t.doubt.leaks)).setCell ⟨gC, 2, none⟩ (.int .i64 (t.low z).least)) := ⟨_, rfl⟩
          rw [← hW] at HL6 ZA6 ZB6 ZC6 HS6 ⊢
          clear hW
          obtain ⟨ra, hra⟩ : ∃ a, a = (t.rich s).canR := ⟨_, rfl⟩
          obtain ⟨rb, hrb⟩ : ∃ a, a = (t.rich s).surelyR := ⟨_, rfl⟩
          obtain ⟨re, hre⟩ : ∃ a, a = (t.rich s).err := ⟨_, rfl⟩
          have HR := Lib.hid (fun W (hM : Mem t oa ob W) (hs : StpsAt W oW (t.m + 1) (t.rich s).s) => suspects_any (t.rich s) oa ca oW cW W hn (show t.m + 1 ≤ 1000000 by omega) hM.u hs hM.T hM.l)
          have HRT := Lib.hid (fun W (hM : Mem t oa ob W) (hs : StpsAt W oW (t.m + 1) (t.rich s).s) => refTest_any (t.rich s) oa ca oW cW W hn (show t.m + 1 ≤ 1000000 by omega) hM.u hs)
          rw [← hra, ← hrb, ← hre] at HR
          have HRA := Lib.hid hra
          have HRB := Lib.hid hrb
          have HRE := Lib.hid hre
          clear hra hrb hre
          have k0 := ZA6.out.cell 0 (v := .slice oa t.n ca) rfl
          have k1 := ZA6.out.cell 1 (v := .int .i64 t.leaks) rfl
          have k2 := ZA6.out.cell 2 (v := .int .i64 t.least) rfl
          have k3 := ZA6.out.cell 3 (v := .slice oW (t.m + 1) cW) rfl
          have k4 := ZA6.out.lt
          go_wp2_with fail
          refine (HR.out _ (HM.out.on HL6.out) HS6.out).mono ?_
          rintro e X7 ⟨rfl, hb7⟩
          have HL7 := Lib.hid (HL6.out.trans (hb7.mono HL6.out.size))
          have ZA7 := Lib.hid (ZA6.out.below hb7)
          have ZB7 := Lib.hid (ZB6.out.below hb7)
          have ZC7 := Lib.hid (ZC6.out.below hb7)
          have HS7 := Lib.hid (HS6.out.mono hb7)
          clear HL6 ZA6 ZB6 ZC6 HS6 hb7 k0 k1 k2 k3 k4
          have k0 := ZA7.out.cell 0 (v := .slice oa t.n ca) rfl
          have k1 := ZA7.out.cell 1 (v := .int .i64 t.leaks) rfl
          have k2 := ZA7.out.cell 2 (v := .int .i64 t.least) rfl
          have k3 := ZA7.out.cell 3 (v := .slice oW (t.m + 1) cW) rfl
          have k4 := ZA7.out.lt
          go_upto_region 13 with fail
          have hre3 := err_three (t.rich s)
          have her3 := err_three t
          rw [← HRE.out] at hre3
          rw [← HER.out] at her3
          have hnn : er ≠ 1 := by simpa using her1
          have HAL := Lib.hid (res_lt (t := t) hn2)
          have HRL := Lib.hid (res_lt (t := t.rich s) hn2)
          have HDV := Lib.hid (doubt_valid HVA.out)
          have HLV := Lib.hid (low_valid HVA.out z)
          have HDE := Lib.hid (show (t.doubt.err == 1) = false by cases h9 : (t.doubt.err == 1); rfl; have := err_valid.1 (by simpa using h9); rw [HDV.out] at this; cases this)
          have HLE := Lib.hid (show ((t.low z).err == 1) = false by cases h9 : ((t.low z).err == 1); rfl; have := err_valid.1 (by simpa using h9); rw [HLV.out] at this; cases this)
          have HD := Lib.hid (fun W (hM : Mem t oa ob W) => suspects_any t.doubt oa ca ob cb W hn hm hM.u hM.s hM.T hM.l)
          have HLO := Lib.hid (fun W (hM : Mem t oa ob W) => suspects_any (t.low z) oa ca ob cb W hn hm hM.u hM.s hM.T hM.l)
          rcases hre3 with rfl | rfl | rfl
          · have hw := wk_res (rich_wk t s) HVA.out HRE.out.symm
            rw [← HER.out, ← HRA.out, ← HRB.out, ← HA.out, ← HB.out] at hw
            obtain ⟨rfl, w2, w3⟩ := hw
            have x1 := HAL.out
            have x2 := HRL.out
            rw [← HA.out, ← HB.out] at x1
            rw [← HRA.out, ← HRB.out] at x2
            have V1 := i64_andNot_nat ra a (by omega) (by omega)
            have V2 := i64_andNot_nat b rb (by omega) (by omega)
            rw [w2] at V1
            rw [w3] at V2
            clear x1 x2 w2 w3 her3 hnn
            go_upto_region 15 with fail
            clear V1 V2
            clear k0 k1 k2 k3 k4
            go_wp2_with fail
            go_loopw [16] (fun v16 wr => ∃ k : Nat, k ≤ 2 ∧ v16 = .int .i64 k ∧ Below X7.heap.size X7 wr) (fun i _ => 2 - (intOf i).toNat)
            case atStart => exact ⟨0, by omega, rfl, Below.refl _ _⟩
            case round =>
              obtain ⟨k, hk2, rfl, hbr⟩ := hrel
              have HBR := Lib.hid hbr
              clear hbr
              rcases (by omega : k = 0 ∨ k = 1 ∨ k = 2) with rfl | rfl | rfl
              · have zb := ZB7.out.below HBR.out
                have k0 := zb.cell 0 (v := .slice oa t.n ca) rfl
                have k1 := zb.cell 1 (v := .int .i64 t.doubt.leaks) rfl
                have k2 := zb.cell 2 (v := .int .i64 t.least) rfl
                have k3 := zb.cell 3 (v := .slice ob t.m cb) rfl
                have k4 := zb.lt
                have hw := wk_res (doubt_wk hk.out.l1) HDV.out HER.out.symm
                rw [← HA.out, ← HB.out] at hw
                obtain ⟨w1, w2, w3⟩ := hw
                have x1 := HAL.out
                rw [← HA.out, ← HB.out] at x1
                have x2 := res_lt (t := t.doubt) hn2
                have V1 := i64_andNot_nat a t.doubt.canR (by omega) (by omega)
                have V2 := i64_andNot_nat t.doubt.surelyR b (by omega) (by omega)
                rw [w2] at V1
                rw [w3] at V2
                have HC := Lib.hid (fun W hM => HD.out W hM)
                rw [w1] at HC
                have HV1 := Lib.hid V1
                have HV2 := Lib.hid V2
                clear w1 w2 w3 x1 x2 V1 V2
                go_upto_region 21 with fail
                have hlr := HBR.out.trans ((below_alloc1 wr (.cells #[.slice oa t.n ca, .int .i64 t.doubt.leaks, .int .i64 t.least, .slice ob t.m cb] 25)).mono HBR.out.size)
                have hlw := HL7.out.trans (hlr.mono HL7.out.size)
                clear k0 k1 k2 k3 k4 zb
                go_wp2_with fail
                refine (HC.out _ (HM.out.on hlw)).mono ?_
                rintro e X9 ⟨rfl, hb9⟩
                have hf9 := Lib.hid (hlr.trans (hb9.mono hlr.size))
                clear hb9 hlr hlw
                have V1 := HV1.out
                have V2 := HV2.out
                go_wp2_with fail
                go_roundw
                case rel => exact ⟨1, by omega, by first | rfl | go_num, hf9.out⟩
                case measure => simp [intOf]
              · have zb := ZB7.out.below HBR.out
                have k0 := zb.cell 0 (v := .slice oa t.n ca) rfl
                have k1 := zb.cell 1 (v := .int .i64 t.doubt.leaks) rfl
                have k2 := zb.cell 2 (v := .int .i64 t.least) rfl
                have k3 := zb.cell 3 (v := .slice ob t.m cb) rfl
                have k4 := zb.lt
                have zc := ZC7.out.below HBR.out
                have j0 := zc.cell 0 (v := .slice oa t.n ca) rfl
                have j1 := zc.cell 1 (v := .int .i64 t.leaks) rfl
                have j2 := zc.cell 2 (v := .int .i64 (t.low z).least) rfl
                have j3 := zc.cell 3 (v := .slice ob t.m cb) rfl
                have j4 := zc.lt
                have hw := wk_res (low_wk hk.out.e0 z) HLV.out HER.out.symm
                rw [← HA.out, ← HB.out] at hw
                obtain ⟨w1, w2, w3⟩ := hw
                have x1 := HAL.out
                rw [← HA.out, ← HB.out] at x1
                have x2 := res_lt (t := t.low z) hn2
                have V1 := i64_andNot_nat a (t.low z).canR (by omega) (by omega)
                have V2 := i64_andNot_nat (t.low z).surelyR b (by omega) (by omega)
                rw [w2] at V1
                rw [w3] at V2
                have HC := Lib.hid (fun W hM => HLO.out W hM)
                rw [w1] at HC
                have HV1 := Lib.hid V1
                have HV2 := Lib.hid V2
                clear w1 w2 w3 x1 x2 V1 V2
                go_upto_region 21 with fail
                have hlr := HBR.out.trans ((below_alloc1 wr (.cells #[.slice oa t.n ca, .int .i64 t.leaks, .int .i64 (t.low z).least, .slice ob t.m cb] 25)).mono HBR.out.size)
                have hlw := HL7.out.trans (hlr.mono HL7.out.size)
                clear k0 k1 k2 k3 k4 zb j0 j1 j2 j3 j4 zc
                go_wp2_with fail
                refine (HC.out _ (HM.out.on hlw)).mono ?_
                rintro e X9 ⟨rfl, hb9⟩
                have hf9 := Lib.hid (hlr.trans (hb9.mono hlr.size))
                clear hb9 hlr hlw
                have V1 := HV1.out
                have V2 := HV2.out
                go_wp2_with fail
                go_roundw
                case rel => exact ⟨2, by omega, by first | rfl | go_num, hf9.out⟩
                case measure => simp [intOf]
              · have hlw := HL7.out.trans (HBR.out.mono HL7.out.size)
                have mM := HM.out.on hlw
                go_wp2_with fail
                refine (awake_any _ mM.T mM.l).mono ?_
                rintro e X9 ⟨rfl, hb9⟩
                have hf9 := Lib.hid (hlw.trans (hb9.mono hlw.size))
                clear hb9 hlw mM
                go_wp2_with fail
                go_ret
                exact ⟨rfl, hf9.out⟩
          · have hrv := err_valid.1 HRE.out.symm
            have HRV := Lib.hid hrv
            rcases her3 with rfl | rfl | rfl
            · clear hrv hnn
              go_wp2_with fail
              refine (HRT.out _ (HM.out.on HL7.out) HS7.out).mono ?_
              rintro e X8 ⟨rfl, hb8⟩
              rw [HRV.out]
              have HL8 := Lib.hid (HL7.out.trans (hb8.mono HL7.out.size))
              have ZB8 := Lib.hid (ZB7.out.below hb8)
              have ZC8 := Lib.hid (ZC7.out.below hb8)
              clear HL7 ZA7 ZB7 ZC7 HS7 hb8
              have HL7 := HL8
              have ZB7 := ZB8
              have ZC7 := ZC8
              clear HL8 ZB8 ZC8
              obtain ⟨X7, hW⟩ : ∃ X, X = X8 := ⟨_, rfl⟩
              rw [← hW] at HL7 ZB7 ZC7 ⊢
              clear hW
              go_upto_region 15 with fail
              clear k0 k1 k2 k3 k4
              go_wp2_with fail
              go_loopw [16] (fun v16 wr => ∃ k : Nat, k ≤ 2 ∧ v16 = .int .i64 k ∧ Below X7.heap.size X7 wr) (fun i _ => 2 - (intOf i).toNat)
              case atStart => exact ⟨0, by omega, rfl, Below.refl _ _⟩
              case round =>
                obtain ⟨k, hk2, rfl, hbr⟩ := hrel
                have HBR := Lib.hid hbr
                clear hbr
                rcases (by omega : k = 0 ∨ k = 1 ∨ k = 2) with rfl | rfl | rfl
                · have zb := ZB7.out.below HBR.out
                  have k0 := zb.cell 0 (v := .slice oa t.n ca) rfl
                  have k1 := zb.cell 1 (v := .int .i64 t.doubt.leaks) rfl
                  have k2 := zb.cell 2 (v := .int .i64 t.least) rfl
                  have k3 := zb.cell 3 (v := .slice ob t.m cb) rfl
                  have k4 := zb.lt
                  have hw := wk_res (doubt_wk hk.out.l1) HDV.out HER.out.symm
                  rw [← HA.out, ← HB.out] at hw
                  obtain ⟨w1, w2, w3⟩ := hw
                  have x1 := HAL.out
                  rw [← HA.out, ← HB.out] at x1
                  have x2 := res_lt (t := t.doubt) hn2
                  have V1 := i64_andNot_nat a t.doubt.canR (by omega) (by omega)
                  have V2 := i64_andNot_nat t.doubt.surelyR b (by omega) (by omega)
                  rw [w2] at V1
                  rw [w3] at V2
                  have HC := Lib.hid (fun W hM => HD.out W hM)
                  rw [w1] at HC
                  have HV1 := Lib.hid V1
                  have HV2 := Lib.hid V2
                  clear w1 w2 w3 x1 x2 V1 V2
                  go_upto_region 21 with fail
                  have hlr := HBR.out.trans ((below_alloc1 wr (.cells #[.slice oa t.n ca, .int .i64 t.doubt.leaks, .int .i64 t.least, .slice ob t.m cb] 25)).mono HBR.out.size)
                  have hlw := HL7.out.trans (hlr.mono HL7.out.size)
                  clear k0 k1 k2 k3 k4 zb
                  go_wp2_with fail
                  refine (HC.out _ (HM.out.on hlw)).mono ?_
                  rintro e X9 ⟨rfl, hb9⟩
                  have hf9 := Lib.hid (hlr.trans (hb9.mono hlr.size))
                  clear hb9 hlr hlw
                  have V1 := HV1.out
                  have V2 := HV2.out
                  go_wp2_with fail
                  go_roundw
                  case rel => exact ⟨1, by omega, by first | rfl | go_num, hf9.out⟩
                  case measure => simp [intOf]
                · have zb := ZB7.out.below HBR.out
                  have k0 := zb.cell 0 (v := .slice oa t.n ca) rfl
                  have k1 := zb.cell 1 (v := .int .i64 t.doubt.leaks) rfl
                  have k2 := zb.cell 2 (v := .int .i64 t.least) rfl
                  have k3 := zb.cell 3 (v := .slice ob t.m cb) rfl
                  have k4 := zb.lt
                  have zc := ZC7.out.below HBR.out
                  have j0 := zc.cell 0 (v := .slice oa t.n ca) rfl
                  have j1 := zc.cell 1 (v := .int .i64 t.leaks) rfl
                  have j2 := zc.cell 2 (v := .int .i64 (t.low z).least) rfl
                  have j3 := zc.cell 3 (v := .slice ob t.m cb) rfl
                  have j4 := zc.lt
                  have hw := wk_res (low_wk hk.out.e0 z) HLV.out HER.out.symm
                  rw [← HA.out, ← HB.out] at hw
                  obtain ⟨w1, w2, w3⟩ := hw
                  have x1 := HAL.out
                  rw [← HA.out, ← HB.out] at x1
                  have x2 := res_lt (t := t.low z) hn2
                  have V1 := i64_andNot_nat a (t.low z).canR (by omega) (by omega)
                  have V2 := i64_andNot_nat (t.low z).surelyR b (by omega) (by omega)
                  rw [w2] at V1
                  rw [w3] at V2
                  have HC := Lib.hid (fun W hM => HLO.out W hM)
                  rw [w1] at HC
                  have HV1 := Lib.hid V1
                  have HV2 := Lib.hid V2
                  clear w1 w2 w3 x1 x2 V1 V2
                  go_upto_region 21 with fail
                  have hlr := HBR.out.trans ((below_alloc1 wr (.cells #[.slice oa t.n ca, .int .i64 t.leaks, .int .i64 (t.low z).least, .slice ob t.m cb] 25)).mono HBR.out.size)
                  have hlw := HL7.out.trans (hlr.mono HL7.out.size)
                  clear k0 k1 k2 k3 k4 zb j0 j1 j2 j3 j4 zc
                  go_wp2_with fail
                  refine (HC.out _ (HM.out.on hlw)).mono ?_
                  rintro e X9 ⟨rfl, hb9⟩
                  have hf9 := Lib.hid (hlr.trans (hb9.mono hlr.size))
                  clear hb9 hlr hlw
                  have V1 := HV1.out
                  have V2 := HV2.out
                  go_wp2_with fail
                  go_roundw
                  case rel => exact ⟨2, by omega, by first | rfl | go_num, hf9.out⟩
                  case measure => simp [intOf]
                · have hlw := HL7.out.trans (HBR.out.mono HL7.out.size)
                  have mM := HM.out.on hlw
                  go_wp2_with fail
                  refine (awake_any _ mM.T mM.l).mono ?_
                  rintro e X9 ⟨rfl, hb9⟩
                  have hf9 := Lib.hid (hlw.trans (hb9.mono hlw.size))
                  clear hb9 hlw mM
                  go_wp2_with fail
                  go_ret
                  exact ⟨rfl, hf9.out⟩
            · exact absurd rfl hnn
            · clear hrv hnn
              go_wp2_with fail
              refine (HRT.out _ (HM.out.on HL7.out) HS7.out).mono ?_
              rintro e X8 ⟨rfl, hb8⟩
              rw [HRV.out]
              have HL8 := Lib.hid (HL7.out.trans (hb8.mono HL7.out.size))
              have ZB8 := Lib.hid (ZB7.out.below hb8)
              have ZC8 := Lib.hid (ZC7.out.below hb8)
              clear HL7 ZA7 ZB7 ZC7 HS7 hb8
              have HL7 := HL8
              have ZB7 := ZB8
              have ZC7 := ZC8
              clear HL8 ZB8 ZC8
              obtain ⟨X7, hW⟩ : ∃ X, X = X8 := ⟨_, rfl⟩
              rw [← hW] at HL7 ZB7 ZC7 ⊢
              clear hW
              go_upto_region 15 with fail
              clear k0 k1 k2 k3 k4
              go_wp2_with fail
              go_loopw [16] (fun v16 wr => ∃ k : Nat, k ≤ 2 ∧ v16 = .int .i64 k ∧ Below X7.heap.size X7 wr) (fun i _ => 2 - (intOf i).toNat)
              case atStart => exact ⟨0, by omega, rfl, Below.refl _ _⟩
              case round =>
                obtain ⟨k, hk2, rfl, hbr⟩ := hrel
                have HBR := Lib.hid hbr
                clear hbr
                rcases (by omega : k = 0 ∨ k = 1 ∨ k = 2) with rfl | rfl | rfl
                · have zb := ZB7.out.below HBR.out
                  have k0 := zb.cell 0 (v := .slice oa t.n ca) rfl
                  have k1 := zb.cell 1 (v := .int .i64 t.doubt.leaks) rfl
                  have k2 := zb.cell 2 (v := .int .i64 t.least) rfl
                  have k3 := zb.cell 3 (v := .slice ob t.m cb) rfl
                  have k4 := zb.lt
                  have HC := Lib.hid (fun W hM => HD.out W hM)
                  have hde := HDE.out
                  go_upto_region 21 with fail
                  have hlr := HBR.out.trans ((below_alloc1 wr (.cells #[.slice oa t.n ca, .int .i64 t.doubt.leaks, .int .i64 t.least, .slice ob t.m cb] 25)).mono HBR.out.size)
                  have hlw := HL7.out.trans (hlr.mono HL7.out.size)
                  clear k0 k1 k2 k3 k4 zb
                  go_wp2_with fail
                  refine (HC.out _ (HM.out.on hlw)).mono ?_
                  rintro e X9 ⟨rfl, hb9⟩
                  have hf9 := Lib.hid (hlr.trans (hb9.mono hlr.size))
                  clear hb9 hlr hlw
                  go_wp2_with fail
                  go_roundw
                  case rel => exact ⟨1, by omega, by first | rfl | go_num, hf9.out⟩
                  case measure => simp [intOf]
                · have zb := ZB7.out.below HBR.out
                  have k0 := zb.cell 0 (v := .slice oa t.n ca) rfl
                  have k1 := zb.cell 1 (v := .int .i64 t.doubt.leaks) rfl
                  have k2 := zb.cell 2 (v := .int .i64 t.least) rfl
                  have k3 := zb.cell 3 (v := .slice ob t.m cb) rfl
                  have k4 := zb.lt
                  have zc := ZC7.out.below HBR.out
                  have j0 := zc.cell 0 (v := .slice oa t.n ca) rfl
                  have j1 := zc.cell 1 (v := .int .i64 t.leaks) rfl
                  have j2 := zc.cell 2 (v := .int .i64 (t.low z).least) rfl
                  have j3 := zc.cell 3 (v := .slice ob t.m cb) rfl
                  have j4 := zc.lt
                  have HC := Lib.hid (fun W hM => HLO.out W hM)
                  have hde := HLE.out
                  go_upto_region 21 with fail
                  have hlr := HBR.out.trans ((below_alloc1 wr (.cells #[.slice oa t.n ca, .int .i64 t.leaks, .int .i64 (t.low z).least, .slice ob t.m cb] 25)).mono HBR.out.size)
                  have hlw := HL7.out.trans (hlr.mono HL7.out.size)
                  clear k0 k1 k2 k3 k4 zb j0 j1 j2 j3 j4 zc
                  go_wp2_with fail
                  refine (HC.out _ (HM.out.on hlw)).mono ?_
                  rintro e X9 ⟨rfl, hb9⟩
                  have hf9 := Lib.hid (hlr.trans (hb9.mono hlr.size))
                  clear hb9 hlr hlw
                  go_wp2_with fail
                  go_roundw
                  case rel => exact ⟨2, by omega, by first | rfl | go_num, hf9.out⟩
                  case measure => simp [intOf]
                · have hlw := HL7.out.trans (HBR.out.mono HL7.out.size)
                  have mM := HM.out.on hlw
                  go_wp2_with fail
                  refine (awake_any _ mM.T mM.l).mono ?_
                  rintro e X9 ⟨rfl, hb9⟩
                  have hf9 := Lib.hid (hlw.trans (hb9.mono hlw.size))
                  clear hb9 hlw mM
                  go_wp2_with fail
                  go_ret
                  exact ⟨rfl, hf9.out⟩
          · rcases her3 with rfl | rfl | rfl
            · clear hnn
              go_upto_region 15 with fail
              clear k0 k1 k2 k3 k4
              go_wp2_with fail
              go_loopw [16] (fun v16 wr => ∃ k : Nat, k ≤ 2 ∧ v16 = .int .i64 k ∧ Below X7.heap.size X7 wr) (fun i _ => 2 - (intOf i).toNat)
              case atStart => exact ⟨0, by omega, rfl, Below.refl _ _⟩
              case round =>
                obtain ⟨k, hk2, rfl, hbr⟩ := hrel
                have HBR := Lib.hid hbr
                clear hbr
                rcases (by omega : k = 0 ∨ k = 1 ∨ k = 2) with rfl | rfl | rfl
                · have zb := ZB7.out.below HBR.out
                  have k0 := zb.cell 0 (v := .slice oa t.n ca) rfl
                  have k1 := zb.cell 1 (v := .int .i64 t.doubt.leaks) rfl
                  have k2 := zb.cell 2 (v := .int .i64 t.least) rfl
                  have k3 := zb.cell 3 (v := .slice ob t.m cb) rfl
                  have k4 := zb.lt
                  have hw := wk_res (doubt_wk hk.out.l1) HDV.out HER.out.symm
                  rw [← HA.out, ← HB.out] at hw
                  obtain ⟨w1, w2, w3⟩ := hw
                  have x1 := HAL.out
                  rw [← HA.out, ← HB.out] at x1
                  have x2 := res_lt (t := t.doubt) hn2
                  have V1 := i64_andNot_nat a t.doubt.canR (by omega) (by omega)
                  have V2 := i64_andNot_nat t.doubt.surelyR b (by omega) (by omega)
                  rw [w2] at V1
                  rw [w3] at V2
                  have HC := Lib.hid (fun W hM => HD.out W hM)
                  rw [w1] at HC
                  have HV1 := Lib.hid V1
                  have HV2 := Lib.hid V2
                  clear w1 w2 w3 x1 x2 V1 V2
                  go_upto_region 21 with fail
                  have hlr := HBR.out.trans ((below_alloc1 wr (.cells #[.slice oa t.n ca, .int .i64 t.doubt.leaks, .int .i64 t.least, .slice ob t.m cb] 25)).mono HBR.out.size)
                  have hlw := HL7.out.trans (hlr.mono HL7.out.size)
                  clear k0 k1 k2 k3 k4 zb
                  go_wp2_with fail
                  refine (HC.out _ (HM.out.on hlw)).mono ?_
                  rintro e X9 ⟨rfl, hb9⟩
                  have hf9 := Lib.hid (hlr.trans (hb9.mono hlr.size))
                  clear hb9 hlr hlw
                  have V1 := HV1.out
                  have V2 := HV2.out
                  go_wp2_with fail
                  go_roundw
                  case rel => exact ⟨1, by omega, by first | rfl | go_num, hf9.out⟩
                  case measure => simp [intOf]
                · have zb := ZB7.out.below HBR.out
                  have k0 := zb.cell 0 (v := .slice oa t.n ca) rfl
                  have k1 := zb.cell 1 (v := .int .i64 t.doubt.leaks) rfl
                  have k2 := zb.cell 2 (v := .int .i64 t.least) rfl
                  have k3 := zb.cell 3 (v := .slice ob t.m cb) rfl
                  have k4 := zb.lt
                  have zc := ZC7.out.below HBR.out
                  have j0 := zc.cell 0 (v := .slice oa t.n ca) rfl
                  have j1 := zc.cell 1 (v := .int .i64 t.leaks) rfl
                  have j2 := zc.cell 2 (v := .int .i64 (t.low z).least) rfl
                  have j3 := zc.cell 3 (v := .slice ob t.m cb) rfl
                  have j4 := zc.lt
                  have hw := wk_res (low_wk hk.out.e0 z) HLV.out HER.out.symm
                  rw [← HA.out, ← HB.out] at hw
                  obtain ⟨w1, w2, w3⟩ := hw
                  have x1 := HAL.out
                  rw [← HA.out, ← HB.out] at x1
                  have x2 := res_lt (t := t.low z) hn2
                  have V1 := i64_andNot_nat a (t.low z).canR (by omega) (by omega)
                  have V2 := i64_andNot_nat (t.low z).surelyR b (by omega) (by omega)
                  rw [w2] at V1
                  rw [w3] at V2
                  have HC := Lib.hid (fun W hM => HLO.out W hM)
                  rw [w1] at HC
                  have HV1 := Lib.hid V1
                  have HV2 := Lib.hid V2
                  clear w1 w2 w3 x1 x2 V1 V2
                  go_upto_region 21 with fail
                  have hlr := HBR.out.trans ((below_alloc1 wr (.cells #[.slice oa t.n ca, .int .i64 t.leaks, .int .i64 (t.low z).least, .slice ob t.m cb] 25)).mono HBR.out.size)
                  have hlw := HL7.out.trans (hlr.mono HL7.out.size)
                  clear k0 k1 k2 k3 k4 zb j0 j1 j2 j3 j4 zc
                  go_wp2_with fail
                  refine (HC.out _ (HM.out.on hlw)).mono ?_
                  rintro e X9 ⟨rfl, hb9⟩
                  have hf9 := Lib.hid (hlr.trans (hb9.mono hlr.size))
                  clear hb9 hlr hlw
                  have V1 := HV1.out
                  have V2 := HV2.out
                  go_wp2_with fail
                  go_roundw
                  case rel => exact ⟨2, by omega, by first | rfl | go_num, hf9.out⟩
                  case measure => simp [intOf]
                · have hlw := HL7.out.trans (HBR.out.mono HL7.out.size)
                  have mM := HM.out.on hlw
                  go_wp2_with fail
                  refine (awake_any _ mM.T mM.l).mono ?_
                  rintro e X9 ⟨rfl, hb9⟩
                  have hf9 := Lib.hid (hlw.trans (hb9.mono hlw.size))
                  clear hb9 hlw mM
                  go_wp2_with fail
                  go_ret
                  exact ⟨rfl, hf9.out⟩
            · exact absurd rfl hnn
            · clear hnn
              go_upto_region 15 with fail
              clear k0 k1 k2 k3 k4
              go_wp2_with fail
              go_loopw [16] (fun v16 wr => ∃ k : Nat, k ≤ 2 ∧ v16 = .int .i64 k ∧ Below X7.heap.size X7 wr) (fun i _ => 2 - (intOf i).toNat)
              case atStart => exact ⟨0, by omega, rfl, Below.refl _ _⟩
              case round =>
                obtain ⟨k, hk2, rfl, hbr⟩ := hrel
                have HBR := Lib.hid hbr
                clear hbr
                rcases (by omega : k = 0 ∨ k = 1 ∨ k = 2) with rfl | rfl | rfl
                · have zb := ZB7.out.below HBR.out
                  have k0 := zb.cell 0 (v := .slice oa t.n ca) rfl
                  have k1 := zb.cell 1 (v := .int .i64 t.doubt.leaks) rfl
                  have k2 := zb.cell 2 (v := .int .i64 t.least) rfl
                  have k3 := zb.cell 3 (v := .slice ob t.m cb) rfl
                  have k4 := zb.lt
                  have HC := Lib.hid (fun W hM => HD.out W hM)
                  have hde := HDE.out
                  go_upto_region 21 with fail
                  have hlr := HBR.out.trans ((below_alloc1 wr (.cells #[.slice oa t.n ca, .int .i64 t.doubt.leaks, .int .i64 t.least, .slice ob t.m cb] 25)).mono HBR.out.size)
                  have hlw := HL7.out.trans (hlr.mono HL7.out.size)
                  clear k0 k1 k2 k3 k4 zb
                  go_wp2_with fail
                  refine (HC.out _ (HM.out.on hlw)).mono ?_
                  rintro e X9 ⟨rfl, hb9⟩
                  have hf9 := Lib.hid (hlr.trans (hb9.mono hlr.size))
                  clear hb9 hlr hlw
                  go_wp2_with fail
                  go_roundw
                  case rel => exact ⟨1, by omega, by first | rfl | go_num, hf9.out⟩
                  case measure => simp [intOf]
                · have zb := ZB7.out.below HBR.out
                  have k0 := zb.cell 0 (v := .slice oa t.n ca) rfl
                  have k1 := zb.cell 1 (v := .int .i64 t.doubt.leaks) rfl
                  have k2 := zb.cell 2 (v := .int .i64 t.least) rfl
                  have k3 := zb.cell 3 (v := .slice ob t.m cb) rfl
                  have k4 := zb.lt
                  have zc := ZC7.out.below HBR.out
                  have j0 := zc.cell 0 (v := .slice oa t.n ca) rfl
                  have j1 := zc.cell 1 (v := .int .i64 t.leaks) rfl
                  have j2 := zc.cell 2 (v := .int .i64 (t.low z).least) rfl
                  have j3 := zc.cell 3 (v := .slice ob t.m cb) rfl
                  have j4 := zc.lt
                  have HC := Lib.hid (fun W hM => HLO.out W hM)
                  have hde := HLE.out
                  go_upto_region 21 with fail
                  have hlr := HBR.out.trans ((below_alloc1 wr (.cells #[.slice oa t.n ca, .int .i64 t.leaks, .int .i64 (t.low z).least, .slice ob t.m cb] 25)).mono HBR.out.size)
                  have hlw := HL7.out.trans (hlr.mono HL7.out.size)
                  clear k0 k1 k2 k3 k4 zb j0 j1 j2 j3 j4 zc
                  go_wp2_with fail
                  refine (HC.out _ (HM.out.on hlw)).mono ?_
                  rintro e X9 ⟨rfl, hb9⟩
                  have hf9 := Lib.hid (hlr.trans (hb9.mono hlr.size))
                  clear hb9 hlr hlw
                  go_wp2_with fail
                  go_roundw
                  case rel => exact ⟨2, by omega, by first | rfl | go_num, hf9.out⟩
                  case measure => simp [intOf]
                · have hlw := HL7.out.trans (HBR.out.mono HL7.out.size)
                  have mM := HM.out.on hlw
                  go_wp2_with fail
                  refine (awake_any _ mM.T mM.l).mono ?_
                  rintro e X9 ⟨rfl, hb9⟩
                  have hf9 := Lib.hid (hlw.trans (hb9.mono hlw.size))
                  clear hb9 hlw mM
                  go_wp2_with fail
                  go_ret
                  exact ⟨rfl, hf9.out⟩
end Go.Proofs.YtpognhnmkjpipaaDoor
