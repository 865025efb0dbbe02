/- TravelMore returns true. -/
import Derived.Test.YtldodmfmibeoiaaDoorP7
namespace Go.Proofs.YtldodmfmibeoiaaDoor
open Go.RowKit
theorem rich_news (r : Rnd) (s : Trp) : trpNews r.n r.t ++ [.int .i64 s.b, .int .i64 s.m, .int .i64 s.lo, .int .i64 s.hi] = trpNews (r.n + 1) (r.rich s).t := by
  have e2 : (r.rich s).t r.n = s := if_neg (by omega)
  have e3 : trpNews r.n (r.rich s).t = trpNews r.n r.t := trpNews_congr fun i hi => if_pos hi
  rw [trpNews_succ, e2, e3]
/-- is a span within another one -/
def winB (a b c d : Int) : Bool := decide (c ≤ a ∧ b ≤ d)
set_option maxHeartbeats 1000000 in
theorem win_any (a b c d : Int) (w : World) :
    Calls Tryd.prog 28 #[.agg #[.int .i64 a, .int .i64 b], .agg #[.int .i64 c, .int .i64 d]] w fun e w' => e = .returned (.bool (winB a b c d)) ∧ Below w.heap.size w w' := by
  go_enter Tryd.func28, Tryd.ntmps28
  have HE := Lib.hid (show winB a b c d = (decide (c ≤ a) && decide (b ≤ d)) by unfold winB; rw [Bool.decide_and])
  by_cases h1 : c ≤ a
  · by_cases h2 : b ≤ d
    · go_wp2
      go_ret
      exact ⟨ret_bool (by rw [HE.out]; simp; omega), (by repeat' (first | exact Below.refl _ _ | assumption | apply below_drewN | apply Below.drew | (refine Below.alloc ?_ ?_ _) | (refine Below.setCell ?_ ?_ _) | (simp; done) | (simp; omega) | omega))⟩
    · go_wp2
      go_ret
      exact ⟨ret_bool (by rw [HE.out]; simp; omega), (by repeat' (first | exact Below.refl _ _ | assumption | apply below_drewN | apply Below.drew | (refine Below.alloc ?_ ?_ _) | (refine Below.setCell ?_ ?_ _) | (simp; done) | (simp; omega) | omega))⟩
  · go_wp2
    go_ret
    exact ⟨ret_bool (by rw [HE.out]; simp; omega), (by repeat' (first | exact Below.refl _ _ | assumption | apply below_drewN | apply Below.drew | (refine Below.alloc ?_ ?_ _) | (refine Below.setCell ?_ ?_ _) | (simp; done) | (simp; omega) | omega))⟩
/-- what TravelMore keeps -/
structure Mw (r : Rnd) (s : Trp) (w : World) (oa : Option Addr) (ca : Nat) (W : World) : Prop where
  low : Below w.heap.size w W
  b6 : Box w.heap.size #[.int .i64 r.nb, .int .i64 r.nm, .int .i64 r.most, .slice oa r.n ca] 24 W
  b7 : Box (w.heap.size + 1) #[.int .i64 s.b, .int .i64 s.m, .int .i64 s.lo, .int .i64 s.hi] 48 W
  tr : TrpsAt W oa r.n r.t
  tt : TabAt 1 Lib.deBruijn64tab W
  t1 : 1 < W.heap.size
section
variable {r : Rnd} {s : Trp} {w W W' : World} {oa : Option Addr} {ca : Nat}
theorem Mw.on (h : Mw r s w oa ca W) (hb : Below W.heap.size W W') : Mw r s w oa ca W' :=
  ⟨h.low.trans (hb.mono h.low.size), h.b6.below hb, h.b7.below hb, h.tr.mono hb, tab_below h.tt h.t1 hb, Nat.lt_of_lt_of_le h.t1 hb.size⟩
theorem Mw.cells (h : Mw r s w oa ca W) : W.cell? ⟨w.heap.size, 0, none⟩ = some (.int .i64 r.nb) ∧ W.cell? ⟨w.heap.size, 1, none⟩ = some (.int .i64 r.nm) ∧ W.cell? ⟨w.heap.size, 2, none⟩ = some (.int .i64 r.most) ∧ W.cell? ⟨w.heap.size, 3, none⟩ = some (.slice oa r.n ca) ∧ w.heap.size < W.heap.size :=
  ⟨h.b6.cell 0 rfl, h.b6.cell 1 rfl, h.b6.cell 2 rfl, h.b6.cell 3 rfl, h.b6.lt⟩
theorem trps_only {g n : Nat} {f : Nat → Trp} (h : TrpsAt W oa n f) (ho : Only g W W') (hne : ∀ a, 0 < n → oa = some a → a.block ≠ g) : TrpsAt W' oa n f := fun i hi => by
  obtain ⟨b, off, e, hl, c0, c1, c2, c3⟩ := h i hi
  have hb := hne _ (by omega) e
  have k := ho.block b hb
  exact ⟨b, off, e, by rw [ho.size]; exact hl, (World.cell?_of_block (a := ⟨b, off + i * 4, none⟩) k).trans c0, (World.cell?_of_block (a := ⟨b, off + i * 4 + 1, none⟩) k).trans c1, (World.cell?_of_block (a := ⟨b, off + i * 4 + 1 + 1, none⟩) k).trans c2, (World.cell?_of_block (a := ⟨b, off + i * 4 + 1 + 1 + 1, none⟩) k).trans c3⟩
/-- a round's box, its trips elsewhere -/
structure Bx (y : Rnd) (g : Nat) (ow : Option Addr) (cw : Nat) (W : World) : Prop where
  b : Box g #[.int .i64 y.nb, .int .i64 y.nm, .int .i64 y.most, .slice ow y.n cw] 24 W
  tr : TrpsAt W ow y.n y.t
theorem Bx.on {y : Rnd} {g : Nat} {ow : Option Addr} {cw : Nat} (h : Bx y g ow cw W) (hb : Below W.heap.size W W') : Bx y g ow cw W' := ⟨h.b.below hb, h.tr.mono hb⟩
theorem Bx.cells {y : Rnd} {g : Nat} {ow : Option Addr} {cw : Nat} (h : Bx y g ow cw W) : W.cell? ⟨g, 0, none⟩ = some (.int .i64 y.nb) ∧ W.cell? ⟨g, 1, none⟩ = some (.int .i64 y.nm) ∧ W.cell? ⟨g, 2, none⟩ = some (.int .i64 y.most) ∧ W.cell? ⟨g, 3, none⟩ = some (.slice ow y.n cw) ∧ g < W.heap.size :=
  ⟨h.b.cell 0 rfl, h.b.cell 1 rfl, h.b.cell 2 rfl, h.b.cell 3 rfl, h.b.lt⟩
end
set_option maxRecDepth 100000 in
set_option maxHeartbeats 16000000 in
theorem travelMore_any (r : Rnd) (oa : Option Addr) (ca : Nat) (s : Trp) (off bench meter : Int) (by9 : Nat) (w : World) (hA : TrpsAt w oa r.n r.t) (hT : TabAt 1 Lib.deBruijn64tab w) (hw1 : 1 < w.heap.size) (hnil : oa = none → r.n = 0 ∧ ca = 0) (hby : by9 < 256) :
    Calls Tryd.prog 9 #[r.val oa ca, s.val, .int .i64 off, .int .i64 bench, .int .i64 meter, .int .u8 by9] w fun e w' => e = .returned (.bool true) ∧ Below w.heap.size w w' := by
  have HAW := Lib.hid (fun (W : World) (h : Below w.heap.size w W) => awake_any W (tab_below hT hw1 h) (Nat.lt_of_lt_of_le hw1 h.size))
  have HNIL := Lib.hid hnil
  have HTA := Lib.hid hT
  have HTR := Lib.hid hA
  have HW1 := Lib.hid hw1
  have HW19 := Lib.hid hw1
  clear hA hT hw1 hnil
  go_enter Tryd.func9, Tryd.ntmps9
  go_upto_region 1 with fail
  have hb0 : Below w.heap.size w ((w.alloc (.cells #[.int .i64 r.nb, .int .i64 r.nm, .int .i64 r.most, .slice oa r.n ca] 24)).alloc (.cells #[.int .i64 s.b, .int .i64 s.m, .int .i64 s.lo, .int .i64 s.hi] 48)) := (by repeat' (first | exact Below.refl _ _ | assumption | apply below_drewN | apply Below.drew | (refine Below.alloc ?_ ?_ _) | (refine Below.setCell ?_ ?_ _) | (simp; done) | (simp; omega) | omega))
  have HA := Lib.hid (show Mw r s w oa ca ((w.alloc (.cells #[.int .i64 r.nb, .int .i64 r.nm, .int .i64 r.most, .slice oa r.n ca] 24)).alloc (.cells #[.int .i64 s.b, .int .i64 s.m, .int .i64 s.lo, .int .i64 s.hi] 48)) from
    ⟨hb0, (Box.new _ _ w rfl).old _, Box.new _ _ _ (by simp), HTR.out.mono hb0, tab_below HTA.out HW1.out hb0, Nat.lt_of_lt_of_le HW1.out hb0.size⟩)
  clear hb0 HTR HTA HW1
  obtain ⟨X0, hW⟩ : ∃ X, X = ((w.alloc (.cells #[.int .i64 r.nb, .int .i64 r.nm, .int .i64 r.most, .slice oa r.n ca] 24)).alloc (.cells #[.int .i64 s.b, .int .i64 s.m, .int .i64 s.lo, .int .i64 s.hi] 48)) := ⟨_, rfl⟩
  rw [← hW] at HA ⊢
  clear hW
  obtain ⟨k0, k1, k2, k3, kl⟩ := HA.out.cells
  by_cases h14 : 14 ≤ r.n
  · have z1 : decide (14 ≤ (r.n : Int)) = true := by simp; omega
    go_wp2_with fail
    refine (HAW.out _ HA.out.low).mono ?_
    rintro e wa ⟨rfl, hb⟩
    have HLA := Lib.hid (HA.out.low.trans (hb.mono HA.out.low.size))
    clear hb
    go_wp2_with fail
    go_ret
    exact ⟨rfl, HLA.out⟩
  have z1 : decide (14 ≤ (r.n : Int)) = false := by simp; omega
  have h14 : r.n < 14 := by omega
  have hn : r.n ≤ 1000000 := by omega

  have ZF := Lib.hid (fun h => show (r.fault off bench).lo = 0 ∧ (r.fault off bench).hi = 0 from Rnd.tell_zero (turn := true) h)
  have EF := Lib.hid (show r.err off ≠ 0 → (r.fault off bench).e = r.err off from fun h => by unfold Rnd.fault Rnd.tell; rw [if_pos h])
  have EE := Lib.hid (show r.err off ≠ 0 → (r.error off meter).e = r.err off from fun h => by unfold Rnd.error Rnd.tell; rw [if_pos h])
  obtain ⟨T1, hT1⟩ : ∃ T, T = r.fault off bench := ⟨_, rfl⟩
  obtain ⟨T2, hT2⟩ : ∃ T, T = r.error off meter := ⟨_, rfl⟩
  obtain ⟨is, his⟩ : ∃ q, q = r.fitsB off := ⟨_, rfl⟩
  obtain ⟨er, her⟩ : ∃ q, q = r.err off := ⟨_, rfl⟩
  have H1 := Lib.hid hT1
  have H2 := Lib.hid hT2
  have H3 := Lib.hid his
  have H4 := Lib.hid her
  have C1 := Lib.hid (fun (W : World) a b c d => by have h9 := fault_any r oa ca off bench W a b c d; rw [← hT1] at h9; exact h9)
  have C2 := Lib.hid (fun (W : World) a b c d => by have h9 := error_any r oa ca off meter W a b c d; rw [← hT2] at h9; exact h9)
  have C0 := Lib.hid (fun (W : World) a b c d => by have h9 := fits_any r oa ca off W a b c d; rw [← his, ← her] at h9; exact h9)
  rw [← hT1, ← her] at EF
  rw [← hT2, ← her] at EE
  clear ZF hT1 hT2 his her
  obtain ⟨f1, f2, f3⟩ := T1
  obtain ⟨e1, e2, e3⟩ := T2
  dsimp only at EF EE
  go_wp2_with fail
  refine (C0.out _ hn HA.out.tt HA.out.t1 HA.out.tr).mono ?_
  rintro e v2 ⟨rfl, hb⟩
  have HA' := Lib.hid (HA.out.on hb)
  clear HA k0 k1 k2 k3 kl hb
  go_upto_region 4 with fail
  obtain ⟨Y2, hW⟩ : ∃ X, X = v2 := ⟨_, rfl⟩
  rw [← hW] at HA' ⊢
  clear hW
  have HA := HA'
  clear HA'
  obtain ⟨k0, k1, k2, k3, kl⟩ := HA.out.cells
  go_wp2_with fail
  refine (C1.out _ hn HA.out.tt HA.out.t1 HA.out.tr).mono ?_
  rintro e v3 ⟨rfl, hb⟩
  have HA' := Lib.hid ((HA.out.on hb).on (below_alloc1 v3 (.cells #[.int .i64 f1, .int .i64 f2] 33)))
  have XF' := Lib.hid (Box.new (g := v3.heap.size) #[.int .i64 f1, .int .i64 f2] 33 v3 rfl)
  clear HA k0 k1 k2 k3 kl hb
  go_upto_region 5 with fail
  obtain ⟨GXF, hG⟩ : ∃ g, g = v3.heap.size := ⟨_, rfl⟩
  obtain ⟨Y3, hW⟩ : ∃ X, X = v3.alloc (.cells #[.int .i64 f1, .int .i64 f2] 33) := ⟨_, rfl⟩
  rw [← hW] at HA' XF' ⊢
  rw [← hG] at XF' ⊢
  clear hG
  clear hW
  have HA := HA'
  clear HA'
  have XF := XF'
  clear XF'
  obtain ⟨k0, k1, k2, k3, kl⟩ := HA.out.cells
  go_wp2_with fail
  refine (C2.out _ hn HA.out.tt HA.out.t1 HA.out.tr).mono ?_
  rintro e v4 ⟨rfl, hb⟩
  have HA' := Lib.hid ((HA.out.on hb).on (below_alloc1 v4 (.cells #[.int .i64 e1, .int .i64 e2] 33)))
  have XF' := Lib.hid ((XF.out.below hb).below (below_alloc1 v4 (.cells #[.int .i64 e1, .int .i64 e2] 33)))
  have XE' := Lib.hid (Box.new (g := v4.heap.size) #[.int .i64 e1, .int .i64 e2] 33 v4 rfl)
  clear HA XF k0 k1 k2 k3 kl hb
  go_upto_region 6 with fail
  obtain ⟨GXE, hG⟩ : ∃ g, g = v4.heap.size := ⟨_, rfl⟩
  obtain ⟨Y4, hW⟩ : ∃ X, X = v4.alloc (.cells #[.int .i64 e1, .int .i64 e2] 33) := ⟨_, rfl⟩
  rw [← hW] at HA' XF' XE' ⊢
  rw [← hG] at XE' ⊢
  clear hG
  clear hW
  have HA := HA'
  clear HA'
  have XF := XF'
  clear XF'
  have XE := XE'
  clear XE'
  by_cases he : er = 0
  case neg =>
    have hf3 := EF.out he
    have he3 := EE.out he
    have his : is = false := by
      rw [H3.out]; unfold Rnd.fitsB; rw [decide_eq_false (by rw [← H4.out]; exact he)]; rfl
    subst his hf3 he3
    have y1 : (e3 != 0) = true := by simpa using he
    have y2 : (e3 == 0) = false := by simpa using he
    have y3 : (e3 == e3) = true := by simp
    as_aux_lemma =>
      go_wp2_with fail
      refine (HAW.out _ HA.out.low).mono ?_
      rintro e wa ⟨rfl, hb⟩
      have HLA := Lib.hid (HA.out.low.trans (hb.mono HA.out.low.size))
      clear hb
      go_wp2_with fail
      go_ret
      exact ⟨rfl, HLA.out⟩
  subst he
  have he : r.err off = 0 := H4.out.symm
  have hv := (Rnd.err_zero he).1
  have HV := Lib.hid hv
  have HE := Lib.hid he
  have hm0 := (Rnd.valid_head hv).2.2.1.1
  have hm1 := (Rnd.valid_head hv).2.2.1.2
  clear EF EE C0 C1 C2 he hv
  obtain ⟨k0, k1, k2, k3, kl⟩ := HA.out.cells
  go_wp2_with fail
  refine (round_any r oa ca _ hn HA.out.tr).mono ?_
  rintro e v5 ⟨rfl, hb⟩
  rw [HV.out]
  have HA' := Lib.hid (HA.out.on hb)
  have XF' := Lib.hid (XF.out.below hb)
  have XE' := Lib.hid (XE.out.below hb)
  clear HA XF XE k0 k1 k2 k3 kl hb
  have HA := HA'
  have XF := XF'
  have XE := XE'
  clear HA' XF' XE'
  have HERN := Lib.hid (show r.err (-1) = 0 from Rnd.err_mk HV.out (by have := (Rnd.valid_head HV.out).1; omega))
  obtain ⟨al, hal⟩ : ∃ q, q = r.fitsB (-1) := ⟨_, rfl⟩
  have HAL := Lib.hid (show al = true → is = true from fun h => by
    rw [H3.out, fits_err HE.out]
    rw [hal, fits_err HERN.out] at h
    exact all_sub HE.out h)
  have C0 := Lib.hid (fun (W : World) a b c d => by have h9 := fits_any r oa ca (-1) W a b c d; rw [← hal, HERN.out] at h9; exact h9)
  clear hal
  obtain ⟨k0, k1, k2, k3, kl⟩ := HA.out.cells
  go_wp2_with fail
  refine (C0.out _ hn HA.out.tt HA.out.t1 HA.out.tr).mono ?_
  rintro e v6 ⟨rfl, hb⟩
  have HA' := Lib.hid (HA.out.on hb)
  have XF' := Lib.hid (XF.out.below hb)
  have XE' := Lib.hid (XE.out.below hb)
  clear HA XF XE k0 k1 k2 k3 kl hb
  go_upto_region 9 with fail
  obtain ⟨Y6, hW⟩ : ∃ X, X = v6 := ⟨_, rfl⟩
  rw [← hW] at HA' XF' XE' ⊢
  clear hW
  have HA := HA'
  clear HA'
  have XF := XF'
  clear XF'
  have XE := XE'
  clear XE'
  clear C0
  have hcs : al = false ∨ (al = true ∧ is = true) := by
    cases al
    · exact .inl rfl
    · exact .inr ⟨rfl, HAL.out rfl⟩
  clear HAL
  go_cut [100] (fun s100 wx => s100 = .bool false ∧ wx = Y6)
  case first =>
    rcases hcs with rfl | ⟨rfl, rfl⟩
    · go_wp2_with fail
      go_meet
      exact ⟨rfl, rfl⟩
    · go_wp2_with fail
      go_meet
      exact ⟨rfl, rfl⟩
  case rest =>
    obtain ⟨rfl, rfl⟩ := hcut
    clear hcs
    go_upto_region 11 with fail
    obtain ⟨W0, hW0⟩ : ∃ X, X = wc := ⟨_, rfl⟩
    rw [← hW0] at HA XF XE ⊢
    clear hW0
    go_cut [21, 22] (fun s21 s22 wx => ∃ ga gb, s21 = .pointer (some ⟨ga, 0, none⟩) ∧ s22 = .pointer (some ⟨gb, 0, none⟩) ∧ ga ≠ gb ∧ W0.heap.size ≤ ga ∧ W0.heap.size ≤ gb ∧ Below W0.heap.size W0 wx ∧ Box ga #[.int .i64 r.nb, .int .i64 r.nm, .int .i64 r.most, .slice oa r.n ca] 24 wx ∧ Box gb #[.int .i64 r.nb, .int .i64 r.nm, .int .i64 r.most, .slice oa r.n ca] 24 wx)
    case first =>
      as_aux_lemma =>
        have hCC : ∀ A B : World, Below W0.heap.size W0 A → Below A.heap.size A B → Below W0.heap.size W0 B := fun A B h1 h2 => h1.trans (h2.mono h1.size)
        have hC0 : Below W0.heap.size W0 W0.drew := (Below.refl _ _).drew
        refine wp_region_garb (Below W0.heap.size W0) (by kernel_rfl) ?_
        (refine wpAnyG_take (i := 0) hCC hC0 rfl (by kernel_rfl) (by kernel_rfl) (by kernel_rfl) (fun _ _ _ _ h => h) (by rfl) ?_; apply Exists.intro; refine ⟨fun w1 h1 K hK => ?_, ?_⟩; · (have q0 : ∀ W : Aft w1, W.val.cell? ⟨w.heap.size, 0, none⟩ = some (.int .i64 r.nb) := fun W => (HA.out.on (hCC _ _ h1 W.below)).cells.1; have q1 : ∀ W : Aft w1, W.val.cell? ⟨w.heap.size, 1, none⟩ = some (.int .i64 r.nm) := fun W => (HA.out.on (hCC _ _ h1 W.below)).cells.2.1; have q2 : ∀ W : Aft w1, W.val.cell? ⟨w.heap.size, 2, none⟩ = some (.int .i64 r.most) := fun W => (HA.out.on (hCC _ _ h1 W.below)).cells.2.2.1; have q3 : ∀ W : Aft w1, W.val.cell? ⟨w.heap.size, 3, none⟩ = some (.slice oa r.n ca) := fun W => (HA.out.on (hCC _ _ h1 W.below)).cells.2.2.2.1; have q4 : ∀ W : Aft w1, w.heap.size < W.val.heap.size := fun W => (HA.out.on (hCC _ _ h1 W.below)).cells.2.2.2.2; go_big_quiet_op; first | exact hK | fail))
        (refine wpAnyG_take (i := 1) hCC hC0 rfl (by kernel_rfl) (by kernel_rfl) (by kernel_rfl) (fun _ _ _ _ h => h) (by rfl) ?_; apply Exists.intro; refine ⟨fun w1 h1 K hK => ?_, ?_⟩; · (have q0 : ∀ W : Aft w1, W.val.cell? ⟨w.heap.size, 0, none⟩ = some (.int .i64 r.nb) := fun W => (HA.out.on (hCC _ _ h1 W.below)).cells.1; have q1 : ∀ W : Aft w1, W.val.cell? ⟨w.heap.size, 1, none⟩ = some (.int .i64 r.nm) := fun W => (HA.out.on (hCC _ _ h1 W.below)).cells.2.1; have q2 : ∀ W : Aft w1, W.val.cell? ⟨w.heap.size, 2, none⟩ = some (.int .i64 r.most) := fun W => (HA.out.on (hCC _ _ h1 W.below)).cells.2.2.1; have q3 : ∀ W : Aft w1, W.val.cell? ⟨w.heap.size, 3, none⟩ = some (.slice oa r.n ca) := fun W => (HA.out.on (hCC _ _ h1 W.below)).cells.2.2.2.1; have q4 : ∀ W : Aft w1, w.heap.size < W.val.heap.size := fun W => (HA.out.on (hCC _ _ h1 W.below)).cells.2.2.2.2; go_big_quiet_op; first | exact hK | fail))
        (refine wpAnyG_two (i := 2) (k := 3) (by kernel_rfl) rfl rfl (by rfl) (by rfl) (fun wa hwa K hK => ?_) (fun wa hwa K hK => ?_))
        · skip
          go_simp
          refine hK _ _ ((hCC _ _ hC0 hwa).alloc (by have := hC0.size; have := hwa.size; omega) _) ?_
          clear hK K
          have s1 := Box.new (g := wa.heap.size) #[.int .i64 0, .int .i64 0, .int .i64 0, .slice none 0 0] 24 wa rfl
          have hC1 := (hCC _ _ hC0 hwa).alloc (by have := hC0.size; have := hwa.size; omega) (.cells #[.int .i64 0, .int .i64 0, .int .i64 0, .slice none 0 0] 24)
          have hg1 : W0.heap.size ≤ wa.heap.size := Nat.le_trans hC0.size hwa.size
          clear hwa
          obtain ⟨g1, hG⟩ : ∃ G, G = wa.heap.size := ⟨_, rfl⟩
          obtain ⟨wA, hWA⟩ : ∃ X, X = wa.alloc (.cells #[.int .i64 0, .int .i64 0, .int .i64 0, .slice none 0 0] 24) := ⟨_, rfl⟩
          rw [← hG] at s1 hg1 ⊢
          rw [← hWA] at s1 hC1 ⊢
          clear hG hWA
          (refine wpAnyG_one (i := 3) (by kernel_rfl) rfl (by rfl) (fun wb hwb K hK => ?_))
          go_simp
          have s1b := s1.below hwb
          refine hK _ _ ((hCC _ _ hC1 hwb).alloc (by have := hC1.size; have := hwb.size; omega) _) ?_
          clear hK K
          have s2 := Box.new (g := wb.heap.size) #[.int .i64 0, .int .i64 0, .int .i64 0, .slice none 0 0] 24 wb rfl
          have s1c := s1b.old (.cells #[.int .i64 0, .int .i64 0, .int .i64 0, .slice none 0 0] 24)
          have hne : g1 ≠ wb.heap.size := by have := s1b.lt; omega
          have hg2 : W0.heap.size ≤ wb.heap.size := Nat.le_trans hC1.size hwb.size
          have hC2 := (hCC _ _ hC1 hwb).alloc (by have := hC1.size; have := hwb.size; omega) (.cells #[.int .i64 0, .int .i64 0, .int .i64 0, .slice none 0 0] 24)
          clear hwb s1 s1b hC1
          obtain ⟨g2, hG⟩ : ∃ G, G = wb.heap.size := ⟨_, rfl⟩
          obtain ⟨wB, hWB⟩ : ∃ X, X = wb.alloc (.cells #[.int .i64 0, .int .i64 0, .int .i64 0, .slice none 0 0] 24) := ⟨_, rfl⟩
          rw [← hG] at s2 hg2 hne ⊢
          rw [← hWB] at s2 s1c hC2 ⊢
          clear hG hWB
          (refine wpAnyG_one (i := 4) (by kernel_rfl) rfl (by rfl) (fun wc hwc K hK => ?_))
          refine wp_store_box (s1c.below hwc) rfl rfl rfl rfl (by kernel_rfl) (by simp [Value.oneCell']) (fun wd za ho => ?_); dsimp only [Act.put]
          have zb := ho.box (s2.below hwc) (Ne.symm hne)
          have hC3 := (hCC _ _ hC2 hwc).trans (ho.below hg1)
          refine hK _ _ hC3 ?_
          clear hK K hC2 hwc ho s1c s2
          (refine wpAnyG_one (i := 5) (by kernel_rfl) rfl (by rfl) (fun we hwe K hK => ?_))
          refine wp_store_box (zb.below hwe) rfl rfl rfl rfl (by kernel_rfl) (by simp [Value.oneCell']) (fun wf zb2 ho => ?_); dsimp only [Act.put]
          have za2 := ho.box (za.below hwe) hne
          have hC4 := (hCC _ _ hC3 hwe).trans (ho.below hg2)
          refine hK _ _ hC4 ?_
          clear hK K hC3 hwe ho za zb
          refine wpAnyG_done (by kernel_rfl) (fun wz hwz => ?_) _
          go_wp2_with fail
          go_meet
          exact ⟨_, _, rfl, rfl, hne, hg1, hg2, hCC _ _ hC4 hwz, za2.below hwz, zb2.below hwz⟩
        · skip
          go_simp
          refine hK _ _ ((hCC _ _ hC0 hwa).alloc (by have := hC0.size; have := hwa.size; omega) _) ?_
          clear hK K
          have s1 := Box.new (g := wa.heap.size) #[.int .i64 0, .int .i64 0, .int .i64 0, .slice none 0 0] 24 wa rfl
          have hC1 := (hCC _ _ hC0 hwa).alloc (by have := hC0.size; have := hwa.size; omega) (.cells #[.int .i64 0, .int .i64 0, .int .i64 0, .slice none 0 0] 24)
          have hg1 : W0.heap.size ≤ wa.heap.size := Nat.le_trans hC0.size hwa.size
          clear hwa
          obtain ⟨g1, hG⟩ : ∃ G, G = wa.heap.size := ⟨_, rfl⟩
          obtain ⟨wA, hWA⟩ : ∃ X, X = wa.alloc (.cells #[.int .i64 0, .int .i64 0, .int .i64 0, .slice none 0 0] 24) := ⟨_, rfl⟩
          rw [← hG] at s1 hg1 ⊢
          rw [← hWA] at s1 hC1 ⊢
          clear hG hWA
          (refine wpAnyG_one (i := 2) (by kernel_rfl) rfl (by rfl) (fun wb hwb K hK => ?_))
          go_simp
          have s1b := s1.below hwb
          refine hK _ _ ((hCC _ _ hC1 hwb).alloc (by have := hC1.size; have := hwb.size; omega) _) ?_
          clear hK K
          have s2 := Box.new (g := wb.heap.size) #[.int .i64 0, .int .i64 0, .int .i64 0, .slice none 0 0] 24 wb rfl
          have s1c := s1b.old (.cells #[.int .i64 0, .int .i64 0, .int .i64 0, .slice none 0 0] 24)
          have hne : g1 ≠ wb.heap.size := by have := s1b.lt; omega
          have hg2 : W0.heap.size ≤ wb.heap.size := Nat.le_trans hC1.size hwb.size
          have hC2 := (hCC _ _ hC1 hwb).alloc (by have := hC1.size; have := hwb.size; omega) (.cells #[.int .i64 0, .int .i64 0, .int .i64 0, .slice none 0 0] 24)
          clear hwb s1 s1b hC1
          obtain ⟨g2, hG⟩ : ∃ G, G = wb.heap.size := ⟨_, rfl⟩
          obtain ⟨wB, hWB⟩ : ∃ X, X = wb.alloc (.cells #[.int .i64 0, .int .i64 0, .int .i64 0, .slice none 0 0] 24) := ⟨_, rfl⟩
          rw [← hG] at s2 hg2 hne ⊢
          rw [← hWB] at s2 s1c hC2 ⊢
          clear hG hWB
          (refine wpAnyG_one (i := 4) (by kernel_rfl) rfl (by rfl) (fun wc hwc K hK => ?_))
          refine wp_store_box (s2.below hwc) rfl rfl rfl rfl (by kernel_rfl) (by simp [Value.oneCell']) (fun wd za ho => ?_); dsimp only [Act.put]
          have zb := ho.box (s1c.below hwc) hne
          have hC3 := (hCC _ _ hC2 hwc).trans (ho.below hg2)
          refine hK _ _ hC3 ?_
          clear hK K hC2 hwc ho s1c s2
          (refine wpAnyG_one (i := 5) (by kernel_rfl) rfl (by rfl) (fun we hwe K hK => ?_))
          refine wp_store_box (zb.below hwe) rfl rfl rfl rfl (by kernel_rfl) (by simp [Value.oneCell']) (fun wf zb2 ho => ?_); dsimp only [Act.put]
          have za2 := ho.box (za.below hwe) (Ne.symm hne)
          have hC4 := (hCC _ _ hC3 hwe).trans (ho.below hg1)
          refine hK _ _ hC4 ?_
          clear hK K hC3 hwe ho za zb
          refine wpAnyG_done (by kernel_rfl) (fun wz hwz => ?_) _
          go_wp2_with fail
          go_meet
          exact ⟨_, _, rfl, rfl, Ne.symm hne, hg2, hg1, hCC _ _ hC4 hwz, za2.below hwz, zb2.below hwz⟩
    case rest =>
      obtain ⟨gA, gB, rfl, rfl, nAB, lA, lB, hbc, zA, zB⟩ := hcut
      have lW := HA.out.low.size
      have l7 := HA.out.b7.lt
      have ZA := Lib.hid zA
      have ZB := Lib.hid zB
      have I4 := Lib.hid (HA.out.on hbc)
      have XF4 := Lib.hid (XF.out.below hbc)
      have XE4 := Lib.hid (XE.out.below hbc)
      have nFA : GXF ≠ gA := by have := XF.out.lt; omega
      have nEA : GXE ≠ gA := by have := XE.out.lt; omega
      have nFB : GXF ≠ gB := by have := XF.out.lt; omega
      have nEB : GXE ≠ gB := by have := XE.out.lt; omega
      have n6A : w.heap.size ≠ gA := by have := HA.out.b6.lt; omega
      have n7A : w.heap.size + 1 ≠ gA := by omega
      have n7B : w.heap.size + 1 ≠ gB := by omega
      have n6B : w.heap.size ≠ gB := by have := HA.out.b6.lt; omega
      have lwA : w.heap.size ≤ gA := by have := HA.out.b6.lt; omega
      have lwB : w.heap.size ≤ gB := by have := HA.out.b6.lt; omega
      have HNB := Lib.hid (show ∀ a, 0 < r.n → oa = some a → a.block ≠ gA from fun a h0 ha => by obtain ⟨b9, o9, e9, hl9, -⟩ := HA.out.tr 0 h0; rw [ha] at e9; cases e9; show b9 ≠ gA; omega)
      have N1A := Lib.hid (show 1 ≠ gA by have := HW19.out; omega)
      have N1B := Lib.hid (show 1 ≠ gB by have := HW19.out; omega)
      have HNB2 := Lib.hid (show ∀ a, 0 < r.n → oa = some a → a.block ≠ gB from fun a h0 ha => by obtain ⟨b9, o9, e9, hl9, -⟩ := HA.out.tr 0 h0; rw [ha] at e9; cases e9; show b9 ≠ gB; omega)
      obtain ⟨X4, hW⟩ : ∃ X, X = wc := ⟨_, rfl⟩
      rw [← hW] at I4 ZA ZB XF4 XE4 ⊢
      clear hW hbc zA zB HA XF XE lW l7 lA lB
      have HS4 := Lib.hid I4.out.tr
      obtain ⟨iR, hiR, hzR0, hzR1, hzR2⟩ := info_parts (P := Tryd.prog) (e := 48) (z := .agg #[.int .i64 0, .int .i64 0, .int .i64 0, .int .i64 0]) (size := 4) (bytes := 32) (by kernel_rfl)
      go_upto_region 12 with fail
      go_cut [23] from 103 to 110 (fun s23 wx => ∃ oW cW, AR gA #[.int .i64 r.nb, .int .i64 r.nm, .int .i64 r.most, .slice oW (r.n + 1) cW] X4 wx ∧ wx.ownsRow X4.heap.size 48 4 (.slice oW (r.n + 1) cW) (r.n + 1) (trpNews (r.n + 1) (r.rich s).t))
      case first =>
        as_aux_lemma =>
          have hCC : ∀ A B : World, (∃ cs, AR gA cs X4 A) → Below A.heap.size A B → (∃ cs, AR gA cs X4 B) := fun A B h1 h2 => h1.imp fun _ h => h.on h2
          have hC0 : AR gA #[.int .i64 r.nb, .int .i64 r.nm, .int .i64 r.most, .slice oa r.n ca] X4 X4.drew := ⟨(Same.refl _ _).drew, ZA.out.drew, ZA.out.lt⟩
          refine wp_region_garb (fun A => ∃ cs, AR gA cs X4 A) (by kernel_rfl) ?_
          (refine wpAnyG_take (i := 1) hCC ⟨_, hC0⟩ rfl (by kernel_rfl) (by kernel_rfl) (by kernel_rfl) (fun _ _ _ _ h => h) (by rfl) ?_; apply Exists.intro; refine ⟨fun w1 h1 K hK => ?_, ?_⟩; · (have hZ : ∀ W : Aft w1, Same (fun b => b < X4.heap.size ∧ b ≠ gA) X4 W.val := fun W => (by obtain ⟨cs, h2⟩ := h1; exact (h2.on W.below).same);have zT : ∀ W : Aft w1, w.heap.size < W.val.heap.size := fun W => (I4.out.b6.same (hZ W) ⟨I4.out.b6.lt, n6A⟩).lt; clear hZ; go_big_quiet_op; first | exact hK | fail))
          (refine wpAnyG_take (i := 2) hCC ⟨_, hC0⟩ rfl (by kernel_rfl) (by kernel_rfl) (by kernel_rfl) (fun _ _ _ _ h => h) (by rfl) ?_; apply Exists.intro; refine ⟨fun w1 h1 K hK => ?_, ?_⟩; · (have hZ : ∀ W : Aft w1, Same (fun b => b < X4.heap.size ∧ b ≠ gA) X4 W.val := fun W => (by obtain ⟨cs, h2⟩ := h1; exact (h2.on W.below).same);have g3 : ∀ W : Aft w1, W.val.cell? ⟨w.heap.size, 3, none⟩ = some (.slice oa r.n ca) := fun W => (I4.out.b6.same (hZ W) ⟨I4.out.b6.lt, n6A⟩).cell 3 rfl; clear hZ; go_big_quiet_op; first | exact hK | fail))
          (refine wpAnyG_take (i := 4) hCC ⟨_, hC0⟩ rfl (by kernel_rfl) (by kernel_rfl) (by kernel_rfl) (fun _ _ _ _ h => h) (by rfl) ?_; apply Exists.intro; refine ⟨fun w1 h1 K hK => ?_, ?_⟩; · (have hZ : ∀ W : Aft w1, Same (fun b => b < X4.heap.size ∧ b ≠ gA) X4 W.val := fun W => (by obtain ⟨cs, h2⟩ := h1; exact (h2.on W.below).same);have zS : ∀ W : Aft w1, Box (w.heap.size + 1) #[.int .i64 s.b, .int .i64 s.m, .int .i64 s.lo, .int .i64 s.hi] 48 W.val := fun W => I4.out.b7.same (hZ W) ⟨I4.out.b7.lt, n7A⟩; have g0 : ∀ W : Aft w1, W.val.cell? ⟨w.heap.size + 1, 0, none⟩ = some (.int .i64 s.b) := fun W => (zS W).cell 0 rfl; have g1 : ∀ W : Aft w1, W.val.cell? ⟨w.heap.size + 1, 1, none⟩ = some (.int .i64 s.m) := fun W => (zS W).cell 1 rfl; have g2 : ∀ W : Aft w1, W.val.cell? ⟨w.heap.size + 1, 2, none⟩ = some (.int .i64 s.lo) := fun W => (zS W).cell 2 rfl; have g3 : ∀ W : Aft w1, W.val.cell? ⟨w.heap.size + 1, 3, none⟩ = some (.int .i64 s.hi) := fun W => (zS W).cell 3 rfl; clear zS hZ; go_big_quiet_op; first | exact hK | fail))
          (refine wpAnyG_two (i := 0) (k := 5) (by kernel_rfl) rfl rfl (by rfl) (by rfl) (fun wa hwa K hK => ?_) (fun wa hwa K hK => ?_))
          · skip
            go_simp
            have hA0 := (hC0.on hwa).on (below_alloc1 wa (.cells #[] 48))
            have hL0 : X4.heap.size ≤ wa.heap.size := Nat.le_trans hC0.same.size hwa.size
            refine hK _ _ ⟨_, hA0⟩ ?_
            clear hK K
            have hown : (wa.alloc (.cells #[] 48)).ownsRow X4.heap.size 48 4 (.slice (some ⟨wa.heap.size, 0, none⟩) 0 0) 0 [] := owns_empty hL0 (heap_new rfl)
            clear hwa hC0
            obtain ⟨g0, hG⟩ : ∃ G, G = wa.heap.size := ⟨_, rfl⟩
            obtain ⟨wA, hWA⟩ : ∃ X, X = wa.alloc (.cells #[] 48) := ⟨_, rfl⟩
            rw [← hWA] at hown hA0  ⊢
            rw [← hG] at hown hL0  ⊢
            clear hG hWA
            have hC0 := hA0
            clear hA0
            (refine wpAnyG_two (i := 3) (k := 5) (by kernel_rfl) rfl rfl (by rfl) (by rfl) (fun wa hwa K hK => ?_) (fun wa hwa K hK => ?_))
            · skip
              have hC1 := hC0.on hwa
              have hown1 := owns_below hown hwa
              have hs4 : TrpsAt wa oa r.n r.t := HS4.out.same4 hC1 HNB.out
              refine wp_append_gen (.tmp 103) (.tmp 105) 22 rfl X4.heap.size 48 iR _ 4 32 Tryd.underlying22 hiR hzR0 hzR1 hzR2 rfl (by omega) (.slice (some ⟨g0, 0, none⟩) 0 0) 0 [] rfl hown1 oa r.n ca (trpNews r.n r.t) rfl HNIL.out (trpNews_length _ _) (trps_news hs4) trps_one (by simp only [maxLen]; omega) (by omega) hC1.same.size (fun vS wS hownS hgrowS => ?_)
              have hA0 := hC1.grown hown1 (Nat.le_refl _) hgrowS
              rw [List.nil_append, Nat.zero_add] at hownS
              clear hown1 hs4 hgrowS hC1 hown hwa hC0
              obtain ⟨oV, cV, rfl, -⟩ := owns_form hownS
              go_simp
              refine hK _ _ ⟨_, hA0⟩ ?_
              clear hK K
              have hC0 := hA0
              have hown := hownS
              clear hA0 hownS
              (refine wpAnyG_one (i := 5) (by kernel_rfl) rfl (by rfl) (fun wa hwa K hK => ?_))
              go_simp
              have hA0 := (hC0.on hwa).on (below_alloc1 wa (.cells #[.int .i64 s.b, .int .i64 s.m, .int .i64 s.lo, .int .i64 s.hi] 48))
              refine hK _ _ ⟨_, hA0⟩ ?_
              clear hK K
              have zN := Box.new (g := wa.heap.size) #[.int .i64 s.b, .int .i64 s.m, .int .i64 s.lo, .int .i64 s.hi] 48 wa rfl
              have hown2 := owns_below (owns_below hown hwa) (below_alloc1 wa (.cells #[.int .i64 s.b, .int .i64 s.m, .int .i64 s.lo, .int .i64 s.hi] 48))
              clear hown
              clear hwa hC0
              obtain ⟨gN, hG⟩ : ∃ G, G = wa.heap.size := ⟨_, rfl⟩
              obtain ⟨wA, hWA⟩ : ∃ X, X = wa.alloc (.cells #[.int .i64 s.b, .int .i64 s.m, .int .i64 s.lo, .int .i64 s.hi] 48) := ⟨_, rfl⟩
              rw [← hWA] at zN hA0 hown2 ⊢
              rw [← hG] at zN  ⊢
              clear hG hWA
              have hC0 := hA0
              clear hA0
              have hown := hown2
              clear hown2
              (refine wpAnyG_one (i := 6) (by kernel_rfl) rfl (by rfl) (fun wa hwa K hK => ?_))
              have hC1 := hC0.on hwa
              have hown1 := owns_below hown hwa
              have zN1 := zN.below hwa
              refine wp_append_gen (.tmp 106) (.tmp 108) 22 rfl X4.heap.size 48 iR _ 4 32 Tryd.underlying22 hiR hzR0 hzR1 hzR2 rfl (by omega) (.slice oV r.n cV) r.n (trpNews r.n r.t) rfl hown1 (some ⟨gN, 0, none⟩) 1 1 [.int .i64 s.b, .int .i64 s.m, .int .i64 s.lo, .int .i64 s.hi] rfl (fun e9 => by cases e9) rfl (fun ad9 e9 j9 u9 hu9 => by cases e9; rw [add_flat, Nat.zero_add]; exact zN1.cell j9 (by rw [List.getElem?_toArray]; exact hu9)) (by simp [Value.oneCell']) (by simp only [maxLen]; omega) (by omega) hC1.same.size (fun vS wS hownS hgrowS => ?_)
              have hA0 := hC1.grown hown1 (Nat.le_refl _) hgrowS
              rw [rich_news] at hownS
              clear hown1 hgrowS hC1 hown hwa hC0 zN1 zN
              obtain ⟨oW, cW, rfl, -⟩ := owns_form hownS
              go_simp
              refine hK _ _ ⟨_, hA0⟩ ?_
              clear hK K
              (refine wpAnyG_one (i := 7) (by kernel_rfl) rfl (by rfl) (fun wb hwb K hK => ?_))
              go_simp
              refine hK _ _ ⟨_, hA0.on hwb⟩ ?_
              clear hK K
              (refine wpAnyG_one (i := 8) (by kernel_rfl) rfl (by rfl) (fun wc hwc K hK => ?_))
              have hA1 := (hA0.on hwb).on hwc
              have hownT := owns_below (owns_below hownS hwb) hwc
              refine wp_store_slice hA1.box rfl rfl rfl (by simp) (by kernel_rfl) (fun wd zd ho => ?_)
              dsimp only [Act.put]
              have hownU := owns_but hownT ho.but (own_ne hownT hA1.box (by decide))
              have hsd : Same (fun b => b < X4.heap.size ∧ b ≠ gA) X4 wd := hA1.same.trans ⟨ho.os, ho.tape, ho.output, Nat.le_of_eq ho.size.symm, fun b _ hp => ho.block b hp.2⟩
              have hA2 : AR gA #[.int .i64 r.nb, .int .i64 r.nm, .int .i64 r.most, .slice oW (r.n + 1) cW] X4 wd := ⟨hsd, zd, hA1.lt⟩
              refine hK _ _ ⟨_, hA2⟩ ?_
              clear hK K
              refine wpAnyG_done (by kernel_rfl) (fun wz hwz => ?_) _
              go_wp2_with fail
              go_meet
              exact ⟨oW, cW, hA2.on hwz, owns_below hownU hwz⟩
            · skip
              go_simp
              have hA0 := (hC0.on hwa).on (below_alloc1 wa (.cells #[.int .i64 s.b, .int .i64 s.m, .int .i64 s.lo, .int .i64 s.hi] 48))
              refine hK _ _ ⟨_, hA0⟩ ?_
              clear hK K
              have zN := Box.new (g := wa.heap.size) #[.int .i64 s.b, .int .i64 s.m, .int .i64 s.lo, .int .i64 s.hi] 48 wa rfl
              have hown2 := owns_below (owns_below hown hwa) (below_alloc1 wa (.cells #[.int .i64 s.b, .int .i64 s.m, .int .i64 s.lo, .int .i64 s.hi] 48))
              have hne : wa.heap.size ≠ g0 := by have := (owns_below hown hwa).lt g0 rfl; omega
              clear hown
              clear hwa hC0
              obtain ⟨gN, hG⟩ : ∃ G, G = wa.heap.size := ⟨_, rfl⟩
              obtain ⟨wA, hWA⟩ : ∃ X, X = wa.alloc (.cells #[.int .i64 s.b, .int .i64 s.m, .int .i64 s.lo, .int .i64 s.hi] 48) := ⟨_, rfl⟩
              rw [← hWA] at zN hA0 hown2 ⊢
              rw [← hG] at zN hne ⊢
              clear hG hWA
              have hC0 := hA0
              clear hA0
              have hown := hown2
              clear hown2
              (refine wpAnyG_one (i := 3) (by kernel_rfl) rfl (by rfl) (fun wa hwa K hK => ?_))
              have hC1 := hC0.on hwa
              have hown1 := owns_below hown hwa
              have hs4 : TrpsAt wa oa r.n r.t := HS4.out.same4 hC1 HNB.out
              refine wp_append_gen (.tmp 103) (.tmp 105) 22 rfl X4.heap.size 48 iR _ 4 32 Tryd.underlying22 hiR hzR0 hzR1 hzR2 rfl (by omega) (.slice (some ⟨g0, 0, none⟩) 0 0) 0 [] rfl hown1 oa r.n ca (trpNews r.n r.t) rfl HNIL.out (trpNews_length _ _) (trps_news hs4) trps_one (by simp only [maxLen]; omega) (by omega) hC1.same.size (fun vS wS hownS hgrowS => ?_)
              have hA0 := hC1.grown hown1 (Nat.le_refl _) hgrowS
              rw [List.nil_append, Nat.zero_add] at hownS
              have zN2 : Box gN #[.int .i64 s.b, .int .i64 s.m, .int .i64 s.lo, .int .i64 s.hi] 48 wS := ⟨(hgrowS.block gN (zN.below hwa).lt (by simp only [Value.ownBlock, ne_eq, Option.some.injEq]; exact hne)).trans (zN.below hwa).row⟩
              clear zN
              have zN := zN2
              clear zN2
              clear hown1 hs4 hgrowS hC1 hown hwa hC0
              obtain ⟨oV, cV, rfl, -⟩ := owns_form hownS
              go_simp
              refine hK _ _ ⟨_, hA0⟩ ?_
              clear hK K
              have hC0 := hA0
              have hown := hownS
              clear hA0 hownS
              (refine wpAnyG_one (i := 6) (by kernel_rfl) rfl (by rfl) (fun wa hwa K hK => ?_))
              have hC1 := hC0.on hwa
              have hown1 := owns_below hown hwa
              have zN1 := zN.below hwa
              refine wp_append_gen (.tmp 106) (.tmp 108) 22 rfl X4.heap.size 48 iR _ 4 32 Tryd.underlying22 hiR hzR0 hzR1 hzR2 rfl (by omega) (.slice oV r.n cV) r.n (trpNews r.n r.t) rfl hown1 (some ⟨gN, 0, none⟩) 1 1 [.int .i64 s.b, .int .i64 s.m, .int .i64 s.lo, .int .i64 s.hi] rfl (fun e9 => by cases e9) rfl (fun ad9 e9 j9 u9 hu9 => by cases e9; rw [add_flat, Nat.zero_add]; exact zN1.cell j9 (by rw [List.getElem?_toArray]; exact hu9)) (by simp [Value.oneCell']) (by simp only [maxLen]; omega) (by omega) hC1.same.size (fun vS wS hownS hgrowS => ?_)
              have hA0 := hC1.grown hown1 (Nat.le_refl _) hgrowS
              rw [rich_news] at hownS
              clear hown1 hgrowS hC1 hown hwa hC0 zN1 zN
              obtain ⟨oW, cW, rfl, -⟩ := owns_form hownS
              go_simp
              refine hK _ _ ⟨_, hA0⟩ ?_
              clear hK K
              (refine wpAnyG_one (i := 7) (by kernel_rfl) rfl (by rfl) (fun wb hwb K hK => ?_))
              go_simp
              refine hK _ _ ⟨_, hA0.on hwb⟩ ?_
              clear hK K
              (refine wpAnyG_one (i := 8) (by kernel_rfl) rfl (by rfl) (fun wc hwc K hK => ?_))
              have hA1 := (hA0.on hwb).on hwc
              have hownT := owns_below (owns_below hownS hwb) hwc
              refine wp_store_slice hA1.box rfl rfl rfl (by simp) (by kernel_rfl) (fun wd zd ho => ?_)
              dsimp only [Act.put]
              have hownU := owns_but hownT ho.but (own_ne hownT hA1.box (by decide))
              have hsd : Same (fun b => b < X4.heap.size ∧ b ≠ gA) X4 wd := hA1.same.trans ⟨ho.os, ho.tape, ho.output, Nat.le_of_eq ho.size.symm, fun b _ hp => ho.block b hp.2⟩
              have hA2 : AR gA #[.int .i64 r.nb, .int .i64 r.nm, .int .i64 r.most, .slice oW (r.n + 1) cW] X4 wd := ⟨hsd, zd, hA1.lt⟩
              refine hK _ _ ⟨_, hA2⟩ ?_
              clear hK K
              refine wpAnyG_done (by kernel_rfl) (fun wz hwz => ?_) _
              go_wp2_with fail
              go_meet
              exact ⟨oW, cW, hA2.on hwz, owns_below hownU hwz⟩
          · skip
            go_simp
            have hA0 := (hC0.on hwa).on (below_alloc1 wa (.cells #[.int .i64 s.b, .int .i64 s.m, .int .i64 s.lo, .int .i64 s.hi] 48))
            refine hK _ _ ⟨_, hA0⟩ ?_
            clear hK K
            have zN := Box.new (g := wa.heap.size) #[.int .i64 s.b, .int .i64 s.m, .int .i64 s.lo, .int .i64 s.hi] 48 wa rfl
            clear hwa hC0
            obtain ⟨gN, hG⟩ : ∃ G, G = wa.heap.size := ⟨_, rfl⟩
            obtain ⟨wA, hWA⟩ : ∃ X, X = wa.alloc (.cells #[.int .i64 s.b, .int .i64 s.m, .int .i64 s.lo, .int .i64 s.hi] 48) := ⟨_, rfl⟩
            rw [← hWA] at zN hA0  ⊢
            rw [← hG] at zN  ⊢
            clear hG hWA
            have hC0 := hA0
            clear hA0
            (refine wpAnyG_one (i := 0) (by kernel_rfl) rfl (by rfl) (fun wa hwa K hK => ?_))
            go_simp
            have hA0 := (hC0.on hwa).on (below_alloc1 wa (.cells #[] 48))
            have hL0 : X4.heap.size ≤ wa.heap.size := Nat.le_trans hC0.same.size hwa.size
            refine hK _ _ ⟨_, hA0⟩ ?_
            clear hK K
            have hown : (wa.alloc (.cells #[] 48)).ownsRow X4.heap.size 48 4 (.slice (some ⟨wa.heap.size, 0, none⟩) 0 0) 0 [] := owns_empty hL0 (heap_new rfl)
            have zN2 := (zN.below hwa).old (.cells #[] 48)
            have hne : gN ≠ wa.heap.size := by have := (zN.below hwa).lt; omega
            clear zN
            clear hwa hC0
            obtain ⟨g0, hG⟩ : ∃ G, G = wa.heap.size := ⟨_, rfl⟩
            obtain ⟨wA, hWA⟩ : ∃ X, X = wa.alloc (.cells #[] 48) := ⟨_, rfl⟩
            rw [← hWA] at hown hA0 zN2 ⊢
            rw [← hG] at hown hL0 hne ⊢
            clear hG hWA
            have hC0 := hA0
            clear hA0
            have zN := zN2
            clear zN2
            (refine wpAnyG_one (i := 3) (by kernel_rfl) rfl (by rfl) (fun wa hwa K hK => ?_))
            have hC1 := hC0.on hwa
            have hown1 := owns_below hown hwa
            have hs4 : TrpsAt wa oa r.n r.t := HS4.out.same4 hC1 HNB.out
            refine wp_append_gen (.tmp 103) (.tmp 105) 22 rfl X4.heap.size 48 iR _ 4 32 Tryd.underlying22 hiR hzR0 hzR1 hzR2 rfl (by omega) (.slice (some ⟨g0, 0, none⟩) 0 0) 0 [] rfl hown1 oa r.n ca (trpNews r.n r.t) rfl HNIL.out (trpNews_length _ _) (trps_news hs4) trps_one (by simp only [maxLen]; omega) (by omega) hC1.same.size (fun vS wS hownS hgrowS => ?_)
            have hA0 := hC1.grown hown1 (Nat.le_refl _) hgrowS
            rw [List.nil_append, Nat.zero_add] at hownS
            have zN2 : Box gN #[.int .i64 s.b, .int .i64 s.m, .int .i64 s.lo, .int .i64 s.hi] 48 wS := ⟨(hgrowS.block gN (zN.below hwa).lt (by simp only [Value.ownBlock, ne_eq, Option.some.injEq]; exact hne)).trans (zN.below hwa).row⟩
            clear zN
            have zN := zN2
            clear zN2
            clear hown1 hs4 hgrowS hC1 hown hwa hC0
            obtain ⟨oV, cV, rfl, -⟩ := owns_form hownS
            go_simp
            refine hK _ _ ⟨_, hA0⟩ ?_
            clear hK K
            have hC0 := hA0
            have hown := hownS
            clear hA0 hownS
            (refine wpAnyG_one (i := 6) (by kernel_rfl) rfl (by rfl) (fun wa hwa K hK => ?_))
            have hC1 := hC0.on hwa
            have hown1 := owns_below hown hwa
            have zN1 := zN.below hwa
            refine wp_append_gen (.tmp 106) (.tmp 108) 22 rfl X4.heap.size 48 iR _ 4 32 Tryd.underlying22 hiR hzR0 hzR1 hzR2 rfl (by omega) (.slice oV r.n cV) r.n (trpNews r.n r.t) rfl hown1 (some ⟨gN, 0, none⟩) 1 1 [.int .i64 s.b, .int .i64 s.m, .int .i64 s.lo, .int .i64 s.hi] rfl (fun e9 => by cases e9) rfl (fun ad9 e9 j9 u9 hu9 => by cases e9; rw [add_flat, Nat.zero_add]; exact zN1.cell j9 (by rw [List.getElem?_toArray]; exact hu9)) (by simp [Value.oneCell']) (by simp only [maxLen]; omega) (by omega) hC1.same.size (fun vS wS hownS hgrowS => ?_)
            have hA0 := hC1.grown hown1 (Nat.le_refl _) hgrowS
            rw [rich_news] at hownS
            clear hown1 hgrowS hC1 hown hwa hC0 zN1 zN
            obtain ⟨oW, cW, rfl, -⟩ := owns_form hownS
            go_simp
            refine hK _ _ ⟨_, hA0⟩ ?_
            clear hK K
            (refine wpAnyG_one (i := 7) (by kernel_rfl) rfl (by rfl) (fun wb hwb K hK => ?_))
            go_simp
            refine hK _ _ ⟨_, hA0.on hwb⟩ ?_
            clear hK K
            (refine wpAnyG_one (i := 8) (by kernel_rfl) rfl (by rfl) (fun wc hwc K hK => ?_))
            have hA1 := (hA0.on hwb).on hwc
            have hownT := owns_below (owns_below hownS hwb) hwc
            refine wp_store_slice hA1.box rfl rfl rfl (by simp) (by kernel_rfl) (fun wd zd ho => ?_)
            dsimp only [Act.put]
            have hownU := owns_but hownT ho.but (own_ne hownT hA1.box (by decide))
            have hsd : Same (fun b => b < X4.heap.size ∧ b ≠ gA) X4 wd := hA1.same.trans ⟨ho.os, ho.tape, ho.output, Nat.le_of_eq ho.size.symm, fun b _ hp => ho.block b hp.2⟩
            have hA2 : AR gA #[.int .i64 r.nb, .int .i64 r.nm, .int .i64 r.most, .slice oW (r.n + 1) cW] X4 wd := ⟨hsd, zd, hA1.lt⟩
            refine hK _ _ ⟨_, hA2⟩ ?_
            clear hK K
            refine wpAnyG_done (by kernel_rfl) (fun wz hwz => ?_) _
            go_wp2_with fail
            go_meet
            exact ⟨oW, cW, hA2.on hwz, owns_below hownU hwz⟩
      case rest =>
        obtain ⟨oW, cW, hA, hown⟩ := hcut
        obtain ⟨X5, hW⟩ : ∃ X, X = wc := ⟨_, rfl⟩
        rw [← hW] at hA hown ⊢
        clear hW
        have hl5 : Below w.heap.size w X5 := by
          have h4 := I4.out.low
          refine ⟨hA.same.os.trans h4.os, hA.same.tape.trans h4.tape, hA.same.output.trans h4.output, Nat.le_trans h4.size hA.same.size, fun k9 hk9 => ?_⟩
          rw [hA.same.block k9 (by have := h4.size; omega) ⟨by have := h4.size; omega, by omega⟩]
          exact h4.block k9 hk9
        have hsm : ∀ j, j < w.heap.size → X5.heap[j]? = w.heap[j]? := fun j hj => hl5.block j hj
        have HA := Lib.hid (show Mw r s w oa ca X5 from ⟨hl5, I4.out.b6.same hA.same ⟨I4.out.b6.lt, n6A⟩, I4.out.b7.same hA.same ⟨I4.out.b7.lt, n7A⟩, I4.out.tr.same4 hA HNB.out, fun j hj => (World.cell?_of_block (a := ⟨1, j, none⟩) (hA.same.block 1 I4.out.t1 ⟨I4.out.t1, N1A.out⟩)).trans (I4.out.tt j hj), Nat.lt_of_lt_of_le I4.out.t1 hA.same.size⟩)
        obtain ⟨oa9, ca9, e9, hst⟩ := owns_trps hown
        cases e9
        have hlA := ZA.out.lt
        have hlB := ZB.out.lt
        have HOB := Lib.hid (show ∀ a, 0 < r.n + 1 → oW = some a → a.block ≠ gB from fun a9 _ ha9 => by
          subst ha9
          have h9 := (hown.lt a9.block rfl).1
          omega)
        have HR := Lib.hid (show Bx (r.rich s) gA oW cW X5 from ⟨hA.box, hst⟩)
        have ZB5 := Lib.hid (ZB.out.same hA.same ⟨ZB.out.lt, Ne.symm nAB⟩)
        have XF := Lib.hid (XF4.out.same hA.same ⟨XF4.out.lt, nFA⟩)
        have XE := Lib.hid (XE4.out.same hA.same ⟨XE4.out.lt, nEA⟩)
        clear hA hown hst hl5 hsm hlA hlB I4 ZA ZB XF4 XE4 HS4 HNB HNIL iR hiR hzR0 hzR1 hzR2
        obtain ⟨k0, k1, k2, k3, kl⟩ := HA.out.cells
        have b1 := ZB5.out.cell 2 (v := .int .i64 r.most) rfl
        have b2 := ZB5.out.lt
        have b3 := ZB5.out.frozen 2
        have hby0 : (0 : Int) ≤ (by9 : Int) := by omega
        have hby1 : (by9 : Int) < 256 := by omega
        go_upto_region 14 with fail
        clear k0 k1 k2 k3 kl b1 b2 b3
        obtain ⟨mw, hmw⟩ : ∃ m, m = if r.most + (by9 : Int) < 100000 then r.most + (by9 : Int) else 100000 := ⟨_, rfl⟩
        rw [← hmw]
        have hmw1 : r.most ≤ mw := by rw [hmw]; split <;> omega
        have hmw2 : mw ≤ 100000 := by rw [hmw]; split <;> omega
        clear hmw hby0 hby1
        have ho := (Only.refl gB X5).setCell 2 (.int .i64 mw)
        have HA' := Lib.hid (show Mw r s w oa ca (X5.setCell ⟨gB, 2, none⟩ (.int .i64 mw)) from ⟨HA.out.low.trans (ho.below lwB), ho.box HA.out.b6 n6B, ho.box HA.out.b7 n7B, trps_only HA.out.tr ho HNB2.out, fun j hj => (World.cell?_of_block (a := ⟨1, j, none⟩) (ho.block 1 N1B.out)).trans (HA.out.tt j hj), by rw [ho.size]; exact HA.out.t1⟩)
        have HR' := Lib.hid (show Bx (r.rich s) gA oW cW (X5.setCell ⟨gB, 2, none⟩ (.int .i64 mw)) from ⟨ho.box HR.out.b nAB, trps_only HR.out.tr ho HOB.out⟩)
        have HWD := Lib.hid (show Bx (r.wide mw) gB oa ca (X5.setCell ⟨gB, 2, none⟩ (.int .i64 mw)) from ⟨ZB5.out.set 2 (.int .i64 mw), trps_only HA.out.tr ho HNB2.out⟩)
        have XF' := Lib.hid (ho.box XF.out nFB)
        have XE' := Lib.hid (ho.box XE.out nEB)
        clear HA HR XF XE ZB5 ho
        have HA := HA'
        have HR := HR'
        have XF := XF'
        have XE := XE'
        clear HA' HR' XF' XE'
        obtain ⟨X6, hW⟩ : ∃ X, X = X5.setCell ⟨gB, 2, none⟩ (.int .i64 mw) := ⟨_, rfl⟩
        rw [← hW] at HA HR HWD XF XE ⊢
        clear hW HOB HNB2 N1A N1B nAB n7B n6B n6A n7A nFA nEA nFB nEB lwA lwB
        have hvw := wide_valid HV.out hmw1 hmw2
        have hew : (r.wide mw).err off = 0 := Rnd.err_mk hvw (Rnd.err_zero HE.out).2
        have HU1 := Lib.hid (fun (h : (r.fault off bench).e = 0) => wide_fault hmw1 hmw2 h)
        have HU2 := Lib.hid (fun (h : (r.error off meter).e = 0) => wide_error hmw1 hmw2 h)
        have HU3 := Lib.hid (fun h : is = true => show (r.wide mw).fitsB off = true by rw [fits_err hew]; rw [H3.out, fits_err HE.out] at h; exact fits_sub HE.out hew (wide_sub hmw1) h)
        rw [← H1.out] at HU1
        rw [← H2.out] at HU2
        obtain ⟨y, hy⟩ : ∃ y, y = r.wide mw := ⟨_, rfl⟩
        have hny : y.n ≤ 1000000 := by rw [hy]; exact hn
        rw [← hy] at HU1 HU2 HU3 HWD hew
        clear hvw hy hmw1 hmw2
        obtain ⟨P1, hP1⟩ : ∃ P, P = y.fault off bench := ⟨_, rfl⟩
        obtain ⟨P2, hP2⟩ : ∃ P, P = y.error off meter := ⟨_, rfl⟩
        obtain ⟨aw, haw⟩ : ∃ P, P = y.fitsB off := ⟨_, rfl⟩
        have CW0 : Hid (∀ W : World, y.n ≤ 1000000 → TabAt 1 Lib.deBruijn64tab W → 1 < W.heap.size → TrpsAt W oa y.n y.t → Calls Tryd.prog 12 #[y.val oa ca, .int .i64 off] W fun e w' => e = .returned (.tuple #[.bool aw, .int .i64 0]) ∧ Below W.heap.size W w') := fun W a1 a2 a3 a4 => by have h9 := fits_any y oa ca off W a1 a2 a3 a4; rw [← haw, hew] at h9; exact h9
        have CW1 : Hid (∀ W : World, y.n ≤ 1000000 → TabAt 1 Lib.deBruijn64tab W → 1 < W.heap.size → TrpsAt W oa y.n y.t → Calls Tryd.prog 16 #[y.val oa ca, .int .i64 off, .int .i64 bench] W fun e w' => e = .returned P1.val ∧ Below W.heap.size W w') := fun W a1 a2 a3 a4 => by have h9 := fault_any y oa ca off bench W a1 a2 a3 a4; rw [← hP1] at h9; exact h9
        have CW2 : Hid (∀ W : World, y.n ≤ 1000000 → TabAt 1 Lib.deBruijn64tab W → 1 < W.heap.size → TrpsAt W oa y.n y.t → Calls Tryd.prog 18 #[y.val oa ca, .int .i64 off, .int .i64 meter] W fun e w' => e = .returned P2.val ∧ Below W.heap.size W w') := fun W a1 a2 a3 a4 => by have h9 := error_any y oa ca off meter W a1 a2 a3 a4; rw [← hP2] at h9; exact h9
        rw [← hP1] at HU1
        rw [← hP2] at HU2
        rw [← haw] at HU3
        clear hP1 hP2 haw hew
        obtain ⟨p1, p2, p3⟩ := P1
        obtain ⟨q1, q2, q3⟩ := P2
        dsimp only at HU1 HU2
        go_upto_region 15 with fail
        obtain ⟨k0, k1, k2, k3, kl⟩ := HWD.out.cells
        go_wp2_with fail
        refine (CW0.out _ hny HA.out.tt HA.out.t1 HWD.out.tr).mono ?_
        rintro e v15 ⟨rfl, hb⟩
        have HA' := Lib.hid (HA.out.on hb)
        have HR' := Lib.hid (HR.out.on hb)
        have HWD' := Lib.hid (HWD.out.on hb)
        have XF' := Lib.hid (XF.out.below hb)
        have XE' := Lib.hid (XE.out.below hb)
        clear HA HR HWD XF XE k0 k1 k2 k3 kl hb
        go_upto_region 16 with fail
        obtain ⟨Y15, hW⟩ : ∃ X, X = v15 := ⟨_, rfl⟩
        rw [← hW] at HA' HR' HWD' XF' XE' ⊢
        clear hW
        have HA := HA'
        clear HA'
        have HR := HR'
        clear HR'
        have HWD := HWD'
        clear HWD'
        have XF := XF'
        clear XF'
        have XE := XE'
        clear XE'
        obtain ⟨k0, k1, k2, k3, kl⟩ := HWD.out.cells
        go_wp2_with fail
        refine (CW1.out _ hny HA.out.tt HA.out.t1 HWD.out.tr).mono ?_
        rintro e v16 ⟨rfl, hb⟩
        have HA' := Lib.hid ((HA.out.on hb).on (below_alloc1 v16 (.cells #[.int .i64 p1, .int .i64 p2] 33)))
        have HR' := Lib.hid ((HR.out.on hb).on (below_alloc1 v16 (.cells #[.int .i64 p1, .int .i64 p2] 33)))
        have HWD' := Lib.hid ((HWD.out.on hb).on (below_alloc1 v16 (.cells #[.int .i64 p1, .int .i64 p2] 33)))
        have XF' := Lib.hid ((XF.out.below hb).below (below_alloc1 v16 (.cells #[.int .i64 p1, .int .i64 p2] 33)))
        have XE' := Lib.hid ((XE.out.below hb).below (below_alloc1 v16 (.cells #[.int .i64 p1, .int .i64 p2] 33)))
        have XP' := Lib.hid (Box.new (g := v16.heap.size) #[.int .i64 p1, .int .i64 p2] 33 v16 rfl)
        clear HA HR HWD XF XE k0 k1 k2 k3 kl hb
        go_upto_region 17 with fail
        obtain ⟨GXP, hG⟩ : ∃ g, g = v16.heap.size := ⟨_, rfl⟩
        obtain ⟨Y16, hW⟩ : ∃ X, X = v16.alloc (.cells #[.int .i64 p1, .int .i64 p2] 33) := ⟨_, rfl⟩
        rw [← hW] at HA' HR' HWD' XF' XE' XP' ⊢
        rw [← hG] at XP' ⊢
        clear hG
        clear hW
        have HA := HA'
        clear HA'
        have HR := HR'
        clear HR'
        have HWD := HWD'
        clear HWD'
        have XF := XF'
        clear XF'
        have XE := XE'
        clear XE'
        have XP := XP'
        clear XP'
        obtain ⟨k0, k1, k2, k3, kl⟩ := HWD.out.cells
        go_wp2_with fail
        refine (CW2.out _ hny HA.out.tt HA.out.t1 HWD.out.tr).mono ?_
        rintro e v17 ⟨rfl, hb⟩
        have HA' := Lib.hid ((HA.out.on hb).on (below_alloc1 v17 (.cells #[.int .i64 q1, .int .i64 q2] 33)))
        have HR' := Lib.hid ((HR.out.on hb).on (below_alloc1 v17 (.cells #[.int .i64 q1, .int .i64 q2] 33)))
        have HWD' := Lib.hid ((HWD.out.on hb).on (below_alloc1 v17 (.cells #[.int .i64 q1, .int .i64 q2] 33)))
        have XF' := Lib.hid ((XF.out.below hb).below (below_alloc1 v17 (.cells #[.int .i64 q1, .int .i64 q2] 33)))
        have XE' := Lib.hid ((XE.out.below hb).below (below_alloc1 v17 (.cells #[.int .i64 q1, .int .i64 q2] 33)))
        have XP' := Lib.hid ((XP.out.below hb).below (below_alloc1 v17 (.cells #[.int .i64 q1, .int .i64 q2] 33)))
        have XQ' := Lib.hid (Box.new (g := v17.heap.size) #[.int .i64 q1, .int .i64 q2] 33 v17 rfl)
        clear HA HR HWD XF XE XP k0 k1 k2 k3 kl hb
        go_upto_region 18 with fail
        obtain ⟨GXQ, hG⟩ : ∃ g, g = v17.heap.size := ⟨_, rfl⟩
        obtain ⟨Y17, hW⟩ : ∃ X, X = v17.alloc (.cells #[.int .i64 q1, .int .i64 q2] 33) := ⟨_, rfl⟩
        rw [← hW] at HA' HR' HWD' XF' XE' XP' XQ' ⊢
        rw [← hG] at XQ' ⊢
        clear hG
        clear hW
        have HA := HA'
        clear HA'
        have HR := HR'
        clear HR'
        have HWD := HWD'
        clear HWD'
        have XF := XF'
        clear XF'
        have XE := XE'
        clear XE'
        have XP := XP'
        clear XP'
        have XQ := XQ'
        clear XQ'
        have hcF : (f3 ≠ 0) ∨ (f3 = 0 ∧ p3 = 0 ∧ winB f1 f2 p1 p2 = true) := by
          by_cases h : f3 = 0
          · obtain ⟨h1, h2, h3⟩ := HU1.out h
            exact .inr ⟨h, h1, by unfold winB; simp; omega⟩
          · exact .inl h
        have hcE : (e3 ≠ 0) ∨ (e3 = 0 ∧ q3 = 0 ∧ winB e1 e2 q1 q2 = true) := by
          by_cases h : e3 = 0
          · obtain ⟨h1, h2, h3⟩ := HU2.out h
            exact .inr ⟨h, h1, by unfold winB; simp; omega⟩
          · exact .inl h
        have hcI : is = false ∨ (is = true ∧ aw = true) := by
          cases is
          · exact .inl rfl
          · exact .inr ⟨rfl, HU3.out rfl⟩
        clear HU1 HU2 CW0 CW1 CW2
        go_cut [176] (fun s176 wx => s176 = .bool false ∧ Below Y17.heap.size Y17 wx)
        case first =>
          have f0 := XF.out.cell 0 (v := .int .i64 f1) rfl
          have f9 := XF.out.cell 1 (v := .int .i64 f2) rfl
          have fl := XF.out.lt
          have p0 := XP.out.cell 0 (v := .int .i64 p1) rfl
          have p9 := XP.out.cell 1 (v := .int .i64 p2) rfl
          have pl := XP.out.lt
          have g0 := XE.out.cell 0 (v := .int .i64 e1) rfl
          have g9 := XE.out.cell 1 (v := .int .i64 e2) rfl
          have gl := XE.out.lt
          have q0 := XQ.out.cell 0 (v := .int .i64 q1) rfl
          have q9 := XQ.out.cell 1 (v := .int .i64 q2) rfl
          have ql := XQ.out.lt
          rcases hcI with rfl | ⟨rfl, rfl⟩
          · skip
            rcases hcF with hf | ⟨rfl, rfl, hw1⟩
            · have w1 : (f3 == 0) = false := by simpa using hf
              clear hf
              rcases hcE with hg | ⟨rfl, rfl, hw2⟩
              · as_aux_lemma =>
                  have w2 : (e3 == 0) = false := by simpa using hg
                  clear hg
                  go_wp2_with fail
                  go_meet
                  exact ⟨rfl, Below.refl _ _⟩
              · as_aux_lemma =>
                  have HW2 := Lib.hid hw2
                  clear hw2
                  go_wp2_with fail
                  refine (win_any _ _ _ _ _).mono ?_
                  rintro e u1 ⟨rfl, hu1⟩
                  rw [HW2.out]
                  go_wp2_with fail
                  go_meet
                  exact ⟨rfl, hu1⟩
            · have HW1 := Lib.hid hw1
              clear hw1
              rcases hcE with hg | ⟨rfl, rfl, hw2⟩
              · as_aux_lemma =>
                  have w2 : (e3 == 0) = false := by simpa using hg
                  clear hg
                  go_wp2_with fail
                  refine (win_any _ _ _ _ _).mono ?_
                  rintro e u1 ⟨rfl, hu1⟩
                  rw [HW1.out]
                  go_wp2_with fail
                  go_meet
                  exact ⟨rfl, hu1⟩
              · as_aux_lemma =>
                  have HW2 := Lib.hid hw2
                  clear hw2
                  have XE9 := XE
                  have XQ9 := XQ
                  go_wp2_with fail
                  refine (win_any _ _ _ _ _).mono ?_
                  rintro e u1 ⟨rfl, hu1⟩
                  rw [HW1.out]
                  have HU := Lib.hid hu1
                  have XE8 := XE9.out.below hu1
                  have XQ8 := XQ9.out.below hu1
                  have g0 := XE8.cell 0 (v := .int .i64 e1) rfl
                  have g9 := XE8.cell 1 (v := .int .i64 e2) rfl
                  have gl := XE8.lt
                  have q0 := XQ8.cell 0 (v := .int .i64 q1) rfl
                  have q9 := XQ8.cell 1 (v := .int .i64 q2) rfl
                  have ql := XQ8.lt
                  clear XE8 XQ8 hu1
                  go_wp2_with fail
                  refine (win_any _ _ _ _ _).mono ?_
                  rintro e u2 ⟨rfl, hu2⟩
                  rw [HW2.out]
                  go_wp2_with fail
                  go_meet
                  exact ⟨rfl, HU.out.trans (hu2.mono HU.out.size)⟩
          · skip
            rcases hcF with hf | ⟨rfl, rfl, hw1⟩
            · have w1 : (f3 == 0) = false := by simpa using hf
              clear hf
              rcases hcE with hg | ⟨rfl, rfl, hw2⟩
              · as_aux_lemma =>
                  have w2 : (e3 == 0) = false := by simpa using hg
                  clear hg
                  go_wp2_with fail
                  go_meet
                  exact ⟨rfl, Below.refl _ _⟩
              · as_aux_lemma =>
                  have HW2 := Lib.hid hw2
                  clear hw2
                  go_wp2_with fail
                  refine (win_any _ _ _ _ _).mono ?_
                  rintro e u1 ⟨rfl, hu1⟩
                  rw [HW2.out]
                  go_wp2_with fail
                  go_meet
                  exact ⟨rfl, hu1⟩
            · have HW1 := Lib.hid hw1
              clear hw1
              rcases hcE with hg | ⟨rfl, rfl, hw2⟩
              · as_aux_lemma =>
                  have w2 : (e3 == 0) = false := by simpa using hg
                  clear hg
                  go_wp2_with fail
                  refine (win_any _ _ _ _ _).mono ?_
                  rintro e u1 ⟨rfl, hu1⟩
                  rw [HW1.out]
                  go_wp2_with fail
                  go_meet
                  exact ⟨rfl, hu1⟩
              · as_aux_lemma =>
                  have HW2 := Lib.hid hw2
                  clear hw2
                  have XE9 := XE
                  have XQ9 := XQ
                  go_wp2_with fail
                  refine (win_any _ _ _ _ _).mono ?_
                  rintro e u1 ⟨rfl, hu1⟩
                  rw [HW1.out]
                  have HU := Lib.hid hu1
                  have XE8 := XE9.out.below hu1
                  have XQ8 := XQ9.out.below hu1
                  have g0 := XE8.cell 0 (v := .int .i64 e1) rfl
                  have g9 := XE8.cell 1 (v := .int .i64 e2) rfl
                  have gl := XE8.lt
                  have q0 := XQ8.cell 0 (v := .int .i64 q1) rfl
                  have q9 := XQ8.cell 1 (v := .int .i64 q2) rfl
                  have ql := XQ8.lt
                  clear XE8 XQ8 hu1
                  go_wp2_with fail
                  refine (win_any _ _ _ _ _).mono ?_
                  rintro e u2 ⟨rfl, hu2⟩
                  rw [HW2.out]
                  go_wp2_with fail
                  go_meet
                  exact ⟨rfl, HU.out.trans (hu2.mono HU.out.size)⟩
        case rest =>
          obtain ⟨rfl, hbw⟩ := hcut
          clear hcF hcE hcI
          have HA' := Lib.hid (HA.out.on hbw)
          have HR' := Lib.hid (HR.out.on hbw)
          have XF' := Lib.hid (XF.out.below hbw)
          have XE' := Lib.hid (XE.out.below hbw)
          clear HA HR XF XE XP XQ HWD hbw
          have HA := HA'
          have HR := HR'
          have XF := XF'
          have XE := XE'
          clear HA' HR' XF' XE'
          have HN1 := Lib.hid (fun (he : (r.rich s).err off = 0) (hof : okT ((r.rich s).D off) = true) (h : (r.fault off bench).e = 0) => rich_fault he hof h)
          have HN2 := Lib.hid (fun (he : (r.rich s).err off = 0) (hof : okT ((r.rich s).D off) = true) (h : (r.error off meter).e = 0) => rich_error he hof h)
          have HN3 := Lib.hid (fun (he : (r.rich s).err off = 0) (h : (r.rich s).fitsB off = true) => show is = true by rw [H3.out, fits_err HE.out]; rw [fits_err he] at h; exact fits_sub he HE.out rich_sub h)
          have HER9 := Lib.hid (fun h : (r.rich s).valid = true => show (r.rich s).err off = 0 from Rnd.err_mk h (show -1 ≤ off ∧ off ≤ (r.rich s).nb - 1 from (Rnd.err_zero HE.out).2))
          rw [← H1.out] at HN1
          rw [← H2.out] at HN2
          obtain ⟨z, hz⟩ : ∃ z, z = r.rich s := ⟨_, rfl⟩
          have hnR : z.n ≤ 1000000 := by rw [hz]; show r.n + 1 ≤ _; omega
          rw [← hz] at HN1 HN2 HN3 HER9 HR
          clear hz
          obtain ⟨k0, k1, k2, k3, kl⟩ := HR.out.cells
          go_wp2_with fail
          refine (round_any z oW cW _ hnR HR.out.tr).mono ?_
          rintro e v19 ⟨rfl, hb⟩
          have HA' := Lib.hid (HA.out.on hb)
          have HR' := Lib.hid (HR.out.on hb)
          have XF' := Lib.hid (XF.out.below hb)
          have XE' := Lib.hid (XE.out.below hb)
          clear HA HR XF XE hb k0 k1 k2 k3 kl
          have HA := HA'
          have HR := HR'
          have XF := XF'
          have XE := XE'
          clear HA' HR' XF' XE'
          rcases hvz : z.valid
          · clear hvz
            as_aux_lemma =>
              go_wp2_with fail
              refine (HAW.out _ HA.out.low).mono ?_
              rintro e wa ⟨rfl, hb⟩
              have HLA := Lib.hid (HA.out.low.trans (hb.mono HA.out.low.size))
              clear hb
              go_wp2_with fail
              go_ret
              exact ⟨rfl, HLA.out⟩
          · have hez := HER9.out hvz
            clear hvz HER9
            have HN1 := Lib.hid (fun hof => HN1.out hez hof)
            have HN2 := Lib.hid (fun hof => HN2.out hez hof)
            have HN3 := Lib.hid (HN3.out hez)
            have HFZ := Lib.hid (fits_err hez)
            rw [← HFZ.out] at HN1 HN2
            obtain ⟨P1, hP1⟩ : ∃ P, P = z.fault off bench := ⟨_, rfl⟩
            obtain ⟨P2, hP2⟩ : ∃ P, P = z.error off meter := ⟨_, rfl⟩
            obtain ⟨c, hc⟩ : ∃ P, P = z.fitsB off := ⟨_, rfl⟩
            have CW0 : Hid (∀ W : World, z.n ≤ 1000000 → TabAt 1 Lib.deBruijn64tab W → 1 < W.heap.size → TrpsAt W oW z.n z.t → Calls Tryd.prog 12 #[z.val oW cW, .int .i64 off] W fun e w' => e = .returned (.tuple #[.bool c, .int .i64 0]) ∧ Below W.heap.size W w') := fun W a1 a2 a3 a4 => by have h9 := fits_any z oW cW off W a1 a2 a3 a4; rw [← hc, hez] at h9; exact h9
            have CW1 : Hid (∀ W : World, z.n ≤ 1000000 → TabAt 1 Lib.deBruijn64tab W → 1 < W.heap.size → TrpsAt W oW z.n z.t → Calls Tryd.prog 16 #[z.val oW cW, .int .i64 off, .int .i64 bench] W fun e w' => e = .returned P1.val ∧ Below W.heap.size W w') := fun W a1 a2 a3 a4 => by have h9 := fault_any z oW cW off bench W a1 a2 a3 a4; rw [← hP1] at h9; exact h9
            have CW2 : Hid (∀ W : World, z.n ≤ 1000000 → TabAt 1 Lib.deBruijn64tab W → 1 < W.heap.size → TrpsAt W oW z.n z.t → Calls Tryd.prog 18 #[z.val oW cW, .int .i64 off, .int .i64 meter] W fun e w' => e = .returned P2.val ∧ Below W.heap.size W w') := fun W a1 a2 a3 a4 => by have h9 := error_any z oW cW off meter W a1 a2 a3 a4; rw [← hP2] at h9; exact h9
            rw [← hP1, ← hc] at HN1
            rw [← hP2, ← hc] at HN2
            rw [← hc] at HN3
            clear hP1 hP2 hc hez HFZ
            obtain ⟨x1, x2, x3⟩ := P1
            obtain ⟨y1, y2, y3⟩ := P2
            dsimp only at HN1 HN2
            go_upto_region 22 with fail
            obtain ⟨k0, k1, k2, k3, kl⟩ := HR.out.cells
            go_wp2_with fail
            refine (CW0.out _ hnR HA.out.tt HA.out.t1 HR.out.tr).mono ?_
            rintro e v22 ⟨rfl, hb⟩
            have HA' := Lib.hid (HA.out.on hb)
            have HR' := Lib.hid (HR.out.on hb)
            have XF' := Lib.hid (XF.out.below hb)
            have XE' := Lib.hid (XE.out.below hb)
            clear HA HR XF XE k0 k1 k2 k3 kl hb
            go_upto_region 23 with fail
            obtain ⟨Y22, hW⟩ : ∃ X, X = v22 := ⟨_, rfl⟩
            rw [← hW] at HA' HR' XF' XE' ⊢
            clear hW
            have HA := HA'
            clear HA'
            have HR := HR'
            clear HR'
            have XF := XF'
            clear XF'
            have XE := XE'
            clear XE'
            obtain ⟨k0, k1, k2, k3, kl⟩ := HR.out.cells
            go_wp2_with fail
            refine (CW1.out _ hnR HA.out.tt HA.out.t1 HR.out.tr).mono ?_
            rintro e v23 ⟨rfl, hb⟩
            have HA' := Lib.hid ((HA.out.on hb).on (below_alloc1 v23 (.cells #[.int .i64 x1, .int .i64 x2] 33)))
            have HR' := Lib.hid ((HR.out.on hb).on (below_alloc1 v23 (.cells #[.int .i64 x1, .int .i64 x2] 33)))
            have XF' := Lib.hid ((XF.out.below hb).below (below_alloc1 v23 (.cells #[.int .i64 x1, .int .i64 x2] 33)))
            have XE' := Lib.hid ((XE.out.below hb).below (below_alloc1 v23 (.cells #[.int .i64 x1, .int .i64 x2] 33)))
            have XP' := Lib.hid (Box.new (g := v23.heap.size) #[.int .i64 x1, .int .i64 x2] 33 v23 rfl)
            clear HA HR XF XE k0 k1 k2 k3 kl hb
            go_upto_region 24 with fail
            obtain ⟨GXP, hG⟩ : ∃ g, g = v23.heap.size := ⟨_, rfl⟩
            obtain ⟨Y23, hW⟩ : ∃ X, X = v23.alloc (.cells #[.int .i64 x1, .int .i64 x2] 33) := ⟨_, rfl⟩
            rw [← hW] at HA' HR' XF' XE' XP' ⊢
            rw [← hG] at XP' ⊢
            clear hG
            clear hW
            have HA := HA'
            clear HA'
            have HR := HR'
            clear HR'
            have XF := XF'
            clear XF'
            have XE := XE'
            clear XE'
            have XP := XP'
            clear XP'
            obtain ⟨k0, k1, k2, k3, kl⟩ := HR.out.cells
            go_wp2_with fail
            refine (CW2.out _ hnR HA.out.tt HA.out.t1 HR.out.tr).mono ?_
            rintro e v24 ⟨rfl, hb⟩
            have HA' := Lib.hid ((HA.out.on hb).on (below_alloc1 v24 (.cells #[.int .i64 y1, .int .i64 y2] 33)))
            have HR' := Lib.hid ((HR.out.on hb).on (below_alloc1 v24 (.cells #[.int .i64 y1, .int .i64 y2] 33)))
            have XF' := Lib.hid ((XF.out.below hb).below (below_alloc1 v24 (.cells #[.int .i64 y1, .int .i64 y2] 33)))
            have XE' := Lib.hid ((XE.out.below hb).below (below_alloc1 v24 (.cells #[.int .i64 y1, .int .i64 y2] 33)))
            have XP' := Lib.hid ((XP.out.below hb).below (below_alloc1 v24 (.cells #[.int .i64 y1, .int .i64 y2] 33)))
            have XQ' := Lib.hid (Box.new (g := v24.heap.size) #[.int .i64 y1, .int .i64 y2] 33 v24 rfl)
            clear HA HR XF XE XP k0 k1 k2 k3 kl hb
            go_upto_region 25 with fail
            obtain ⟨GXQ, hG⟩ : ∃ g, g = v24.heap.size := ⟨_, rfl⟩
            obtain ⟨Y24, hW⟩ : ∃ X, X = v24.alloc (.cells #[.int .i64 y1, .int .i64 y2] 33) := ⟨_, rfl⟩
            rw [← hW] at HA' HR' XF' XE' XP' XQ' ⊢
            rw [← hG] at XQ' ⊢
            clear hG
            clear hW
            have HA := HA'
            clear HA'
            have HR := HR'
            clear HR'
            have XF := XF'
            clear XF'
            have XE := XE'
            clear XE'
            have XP := XP'
            clear XP'
            have XQ := XQ'
            clear XQ'
            have hcI : c = false ∨ (c = true ∧ is = true) := by
              cases c
              · exact .inl rfl
              · exact .inr ⟨rfl, HN3.out rfl⟩
            have hcF : c = false ∨ (f3 ≠ 0) ∨ (f3 = 0 ∧ x3 = 0 ∧ winB x1 x2 f1 f2 = true) := by
              by_cases h : f3 = 0
              · cases c
                · exact .inl rfl
                · obtain ⟨h1, h2, h3⟩ := HN1.out rfl h
                  exact .inr (.inr ⟨h, h1, by unfold winB; simp; omega⟩)
              · exact .inr (.inl h)
            have hcE : c = false ∨ (e3 ≠ 0) ∨ (e3 = 0 ∧ y3 = 0 ∧ winB y1 y2 e1 e2 = true) := by
              by_cases h : e3 = 0
              · cases c
                · exact .inl rfl
                · obtain ⟨h1, h2, h3⟩ := HN2.out rfl h
                  exact .inr (.inr ⟨h, h1, by unfold winB; simp; omega⟩)
              · exact .inr (.inl h)
            clear HN1 HN2 HN3 CW0 CW1 CW2
            go_cut [245] (fun s245 wx => s245 = .bool false ∧ Below Y24.heap.size Y24 wx)
            case first =>
              have f0 := XF.out.cell 0 (v := .int .i64 f1) rfl
              have f9 := XF.out.cell 1 (v := .int .i64 f2) rfl
              have fl := XF.out.lt
              have p0 := XP.out.cell 0 (v := .int .i64 x1) rfl
              have p9 := XP.out.cell 1 (v := .int .i64 x2) rfl
              have pl := XP.out.lt
              have g0 := XE.out.cell 0 (v := .int .i64 e1) rfl
              have g9 := XE.out.cell 1 (v := .int .i64 e2) rfl
              have gl := XE.out.lt
              have q0 := XQ.out.cell 0 (v := .int .i64 y1) rfl
              have q9 := XQ.out.cell 1 (v := .int .i64 y2) rfl
              have ql := XQ.out.lt
              rcases hcI with rfl | ⟨rfl, rfl⟩
              · clear hcF hcE
                by_cases hf : f3 = 0
                · subst hf
                  by_cases hg : e3 = 0
                  · as_aux_lemma =>
                      subst hg
                      go_wp2_with fail
                      go_meet
                      exact ⟨rfl, (by repeat' (first | exact Below.refl _ _ | assumption | apply below_drewN | apply Below.drew | (refine Below.alloc ?_ ?_ _) | (refine Below.setCell ?_ ?_ _) | (simp; done) | (simp; omega) | omega))⟩
                  · as_aux_lemma =>
                      have w2 : (e3 == 0) = false := by simpa using hg
                      clear hg
                      go_wp2_with fail
                      go_meet
                      exact ⟨rfl, (by repeat' (first | exact Below.refl _ _ | assumption | apply below_drewN | apply Below.drew | (refine Below.alloc ?_ ?_ _) | (refine Below.setCell ?_ ?_ _) | (simp; done) | (simp; omega) | omega))⟩
                · have w1 : (f3 == 0) = false := by simpa using hf
                  clear hf
                  by_cases hg : e3 = 0
                  · as_aux_lemma =>
                      subst hg
                      go_wp2_with fail
                      go_meet
                      exact ⟨rfl, (by repeat' (first | exact Below.refl _ _ | assumption | apply below_drewN | apply Below.drew | (refine Below.alloc ?_ ?_ _) | (refine Below.setCell ?_ ?_ _) | (simp; done) | (simp; omega) | omega))⟩
                  · as_aux_lemma =>
                      have w2 : (e3 == 0) = false := by simpa using hg
                      clear hg
                      go_wp2_with fail
                      go_meet
                      exact ⟨rfl, (by repeat' (first | exact Below.refl _ _ | assumption | apply below_drewN | apply Below.drew | (refine Below.alloc ?_ ?_ _) | (refine Below.setCell ?_ ?_ _) | (simp; done) | (simp; omega) | omega))⟩
              · replace hcF := hcF.resolve_left (by simp)
                replace hcE := hcE.resolve_left (by simp)
                rcases hcF with hf | ⟨rfl, rfl, hw1⟩
                · have w1 : (f3 == 0) = false := by simpa using hf
                  clear hf
                  rcases hcE with hg | ⟨rfl, rfl, hw2⟩
                  · as_aux_lemma =>
                      have w2 : (e3 == 0) = false := by simpa using hg
                      clear hg
                      go_wp2_with fail
                      go_meet
                      exact ⟨rfl, Below.refl _ _⟩
                  · as_aux_lemma =>
                      have HW2 := Lib.hid hw2
                      clear hw2
                      go_wp2_with fail
                      refine (win_any _ _ _ _ _).mono ?_
                      rintro e u1 ⟨rfl, hu1⟩
                      rw [HW2.out]
                      go_wp2_with fail
                      go_meet
                      exact ⟨rfl, hu1⟩
                · have HW1 := Lib.hid hw1
                  clear hw1
                  rcases hcE with hg | ⟨rfl, rfl, hw2⟩
                  · as_aux_lemma =>
                      have w2 : (e3 == 0) = false := by simpa using hg
                      clear hg
                      go_wp2_with fail
                      refine (win_any _ _ _ _ _).mono ?_
                      rintro e u1 ⟨rfl, hu1⟩
                      rw [HW1.out]
                      go_wp2_with fail
                      go_meet
                      exact ⟨rfl, hu1⟩
                  · as_aux_lemma =>
                      have HW2 := Lib.hid hw2
                      clear hw2
                      have XE9 := XE
                      have XQ9 := XQ
                      go_wp2_with fail
                      refine (win_any _ _ _ _ _).mono ?_
                      rintro e u1 ⟨rfl, hu1⟩
                      rw [HW1.out]
                      have HU := Lib.hid hu1
                      have XE8 := XE9.out.below hu1
                      have XQ8 := XQ9.out.below hu1
                      have g0 := XE8.cell 0 (v := .int .i64 e1) rfl
                      have g9 := XE8.cell 1 (v := .int .i64 e2) rfl
                      have gl := XE8.lt
                      have q0 := XQ8.cell 0 (v := .int .i64 y1) rfl
                      have q9 := XQ8.cell 1 (v := .int .i64 y2) rfl
                      have ql := XQ8.lt
                      clear XE8 XQ8 hu1
                      go_wp2_with fail
                      refine (win_any _ _ _ _ _).mono ?_
                      rintro e u2 ⟨rfl, hu2⟩
                      rw [HW2.out]
                      go_wp2_with fail
                      go_meet
                      exact ⟨rfl, HU.out.trans (hu2.mono HU.out.size)⟩
            case rest =>
              obtain ⟨rfl, hbw⟩ := hcut
              clear hcF hcE hcI
              have HA' := Lib.hid (HA.out.on hbw)
              clear HA HR XF XE XP XQ hbw
              have HA := HA'
              clear HA'
              go_wp2_with fail
              refine (HAW.out _ HA.out.low).mono ?_
              rintro e wa ⟨rfl, hb⟩
              have HLA := Lib.hid (HA.out.low.trans (hb.mono HA.out.low.size))
              clear hb
              go_wp2_with fail
              go_ret
              exact ⟨rfl, HLA.out⟩
end Go.Proofs.YtldodmfmibeoiaaDoor
