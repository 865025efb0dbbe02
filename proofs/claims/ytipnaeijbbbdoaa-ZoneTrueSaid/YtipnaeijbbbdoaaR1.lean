/- Zone, the document's side: own spans, what two spans have in common, parts. -/
import Derived.Test.YtipnaeijbbbdoaaL0
namespace Go.Proofs.Ytipnaeijbbbdoaa
open Go.RowKit
/-- results: a span in a cell, and a truth value -/
theorem res414 {fn : Func} {p q : Tmp} (h : fn.results = #[.cell p 41, .tmp q]) (tmps : Array Value) (w : World) (g : Nat) (a b : Int) (v : Value) (hp : tmps.getD p undef = .pointer (some ⟨g, 0, none⟩)) (hq : tmps.getD q undef = v) (hB : Box g #[.int .i64 a, .int .i64 b] 41 w) :
    (results fn tmps).run Try.prog w = .ok (.tuple #[.agg #[.int .i64 a, .int .i64 b], v]) w := by
  have hp' : tmps[p]?.getD undef = .pointer (some ⟨g, 0, none⟩) := by simpa using hp
  have hq' : tmps[q]?.getD undef = v := by simpa using hq
  have c1 := hB.cell 0 (v := .int .i64 a) rfl
  have c2 := hB.cell 1 (v := .int .i64 b) rfl
  unfold results
  simp only [h]
  simp [hp', hq', asAddr, c1, c2, go_sem]
set_option maxRecDepth 100000 in
set_option maxHeartbeats 8000000 in
theorem own1_any (z : Zon) (w : World) (hz : z.ok) :
    Calls Try.prog 32 #[z.val] w fun e w' => e = .returned (.tuple #[z.own.val, .bool (decide (z.own.lo ≤ z.own.hi))]) ∧ Below w.heap.size w w' := by
  obtain ⟨h1, h2, h3, h4⟩ := hz
  have d := thrD_bd (s := z.m.hi) (e := z.e.lo) (by omega) (by omega) (by omega)
  have u := thrU_bd (s := z.m.lo) (e := z.e.hi) (by omega) (by omega) (by omega) (by omega)
  have td : (1000 * z.m.hi).tdiv (1000 + z.e.lo) = thrD z.m.hi z.e.lo := Int.tdiv_eq_ediv_of_nonneg (by omega)
  have tu : (1000 * z.m.lo + (1000 + z.e.hi) - 1).tdiv (1000 + z.e.hi) = thrU z.m.lo z.e.hi := Int.tdiv_eq_ediv_of_nonneg (by omega)
  have HO := Lib.hid (show z.own = ⟨max 0 (z.i.lo - thrD z.m.hi z.e.lo - z.l.hi), z.i.hi - thrU z.m.lo z.e.hi - z.l.lo⟩ from rfl)
  obtain ⟨D, hD⟩ : ∃ D, D = thrD z.m.hi z.e.lo := ⟨_, rfl⟩
  obtain ⟨U, hU⟩ : ∃ U, U = thrU z.m.lo z.e.hi := ⟨_, rfl⟩
  rw [← hD] at d td HO
  rw [← hU] at u tu HO
  clear hD hU
  obtain ⟨⟨ilo, ihi⟩, ⟨mlo, mhi⟩, ⟨elo, ehi⟩, ⟨llo, lhi⟩, p⟩ := z
  simp only at h1 h2 h3 h4 HO td tu
  obtain ⟨h11, h12, h13⟩ := h1
  obtain ⟨h21, h22, h23⟩ := h2
  obtain ⟨h31, h32, h33⟩ := h3
  obtain ⟨h41, h42, h43⟩ := h4
  obtain ⟨d1, d2⟩ := d
  obtain ⟨u1, u2⟩ := u
  have x1 : (1000 + elo == 0) = false := by simp; omega
  have x2 : 1000 + elo ≠ 0 := by omega
  have x3 : (1000 + ehi == 0) = false := by simp; omega
  have x4 : 1000 + ehi ≠ 0 := by omega
  go_enter Try.func32, Try.ntmps32
  go_upto_region 1 with fail
  have hb0 := (below_alloc1 w (.cells #[.int .i64 ilo, .int .i64 ihi, .int .i64 mlo, .int .i64 mhi, .int .i64 elo, .int .i64 ehi, .int .i64 llo, .int .i64 lhi, .int .i64 p] 48)).alloc (by simp) (.cells #[.int .i64 0, .int .i64 0] 41)
  have hB := (Box.new (g := w.heap.size) #[.int .i64 ilo, .int .i64 ihi, .int .i64 mlo, .int .i64 mhi, .int .i64 elo, .int .i64 ehi, .int .i64 llo, .int .i64 lhi, .int .i64 p] 48 w rfl).old (.cells #[.int .i64 0, .int .i64 0] 41)
  have hS := Box.new (g := w.heap.size + 1) #[.int .i64 0, .int .i64 0] 41 (w.alloc (.cells #[.int .i64 ilo, .int .i64 ihi, .int .i64 mlo, .int .i64 mhi, .int .i64 elo, .int .i64 ehi, .int .i64 llo, .int .i64 lhi, .int .i64 p] 48)) (by simp)
  obtain ⟨W, hW⟩ : ∃ X, X = (w.alloc (.cells #[.int .i64 ilo, .int .i64 ihi, .int .i64 mlo, .int .i64 mhi, .int .i64 elo, .int .i64 ehi, .int .i64 llo, .int .i64 lhi, .int .i64 p] 48)).alloc (.cells #[.int .i64 0, .int .i64 0] 41) := ⟨_, rfl⟩
  rw [← hW] at hb0 hB hS ⊢
  clear hW
  obtain ⟨gs, hgs⟩ : ∃ G, G = w.heap.size + 1 := ⟨_, rfl⟩
  rw [← hgs] at hS ⊢
  obtain ⟨gz, hgr⟩ : ∃ G, G = w.heap.size := ⟨_, rfl⟩
  rw [← hgr] at hB ⊢
  have HGS := Lib.hid (show w.heap.size ≤ gs by omega)
  have HL := Lib.hid hb0
  have HS := Lib.hid hS
  clear hgr hgs hb0 hS
  have c0 := hB.cell 0 (v := .int .i64 ilo) rfl
  have c1 := hB.cell 1 (v := .int .i64 ihi) rfl
  have c2 := hB.cell 2 (v := .int .i64 mlo) rfl
  have c3 := hB.cell 3 (v := .int .i64 mhi) rfl
  have c4 := hB.cell 4 (v := .int .i64 elo) rfl
  have c5 := hB.cell 5 (v := .int .i64 ehi) rfl
  have c6 := hB.cell 6 (v := .int .i64 llo) rfl
  have c7 := hB.cell 7 (v := .int .i64 lhi) rfl
  have c9 := hB.lt
  have hmx : (if lhi < ilo - D then ilo - D - lhi else 0) = max 0 (ilo - D - lhi) := by split <;> omega
  obtain ⟨mx, hm9⟩ : ∃ x, x = max 0 (ilo - D - lhi) := ⟨_, rfl⟩
  rw [← hm9] at hmx HO
  have hmb : 0 ≤ mx ∧ mx ≤ 1073741824 := by omega
  clear hm9 hB
  go_upto_region 5 with fail
  clear c0 c1 c2 c3 c4 c5 c6 c7 c9
  obtain ⟨oh, hoh⟩ : ∃ x, x = ihi - U - llo := ⟨_, rfl⟩
  rw [← hoh] at HO ⊢
  have hob : -2000000000000 ≤ oh ∧ oh ≤ 1073741824 := by omega
  clear hoh td tu x1 x2 x3 x4 hmx
  have hbl := below_alloc1 W (.cells #[.int .i64 mx, .int .i64 oh] 41)
  have hbx := Box.new (g := W.heap.size) #[.int .i64 mx, .int .i64 oh] 41 W rfl
  have HNE := Lib.hid (show gs ≠ W.heap.size by have := HS.out.lt; omega)
  replace HS := Lib.hid (HS.out.old (.cells #[.int .i64 mx, .int .i64 oh] 41))
  replace HL := Lib.hid (HL.out.trans (hbl.mono HL.out.size))
  obtain ⟨g7, hG⟩ : ∃ G, G = W.heap.size := ⟨_, rfl⟩
  obtain ⟨W2, hW⟩ : ∃ X, X = W.alloc (.cells #[.int .i64 mx, .int .i64 oh] 41) := ⟨_, rfl⟩
  rw [← hW] at hbx HS HL ⊢
  rw [← hG] at hbx HNE ⊢
  have HX := Lib.hid hbx
  clear hbl hbx hG hW
  have hP0 : ∀ A B : World, Below W2.heap.size W2 A → Below A.heap.size A B → Below W2.heap.size W2 B := fun A B h1 h2 => h1.trans (h2.mono h1.size)
  have hP1 : ∀ A B : World, (gs < A.heap.size ∧ Box g7 #[.int .i64 mx, .int .i64 oh] 41 A) → Below A.heap.size A B → (gs < B.heap.size ∧ Box g7 #[.int .i64 mx, .int .i64 oh] 41 B) := fun _ _ h1 h2 => ⟨Nat.lt_of_lt_of_le h1.1 h2.size, h1.2.below h2⟩
  have hP01 : ∀ A : World, Below W2.heap.size W2 A → (gs < A.heap.size ∧ Box g7 #[.int .i64 mx, .int .i64 oh] 41 A) := fun _ h1 => ⟨Nat.lt_of_lt_of_le HS.out.lt h1.size, HX.out.below h1⟩
  have hC0 : Below W2.heap.size W2 W2.drew := (Below.refl _ _).drew
  have hdc : decide (mx ≤ oh) = decide (mx ≤ oh) := rfl
  refine wp_region_phase 6 (fun A => Below W2.heap.size W2 A) (fun A => gs < A.heap.size ∧ Box g7 #[.int .i64 mx, .int .i64 oh] 41 A) (by kernel_rfl) ?_
  (refine wpAnyP_take0 (i := 0) hP0 hP1 hC0 (by decide) (by rfl) rfl (by kernel_rfl) rfl (by kernel_rfl) (by kernel_rfl) (by kernel_rfl) (fun _ _ _ _ h => h) (by rfl) ?_; apply Exists.intro; refine ⟨fun w1 h1 K hK => ?_, ?_⟩; · (have q0 : ∀ V : Aft w1, V.val.cell? ⟨g7, 0, none⟩ = some (.int .i64 mx) := fun V => (HX.out.below (hP0 _ _ h1 V.below)).cell 0 rfl; have q1 : ∀ V : Aft w1, V.val.cell? ⟨g7, 1, none⟩ = some (.int .i64 oh) := fun V => (HX.out.below (hP0 _ _ h1 V.below)).cell 1 rfl; have q9 : ∀ V : Aft w1, g7 < V.val.heap.size := fun V => (HX.out.below (hP0 _ _ h1 V.below)).lt; go_big_quiet_op; first | exact hK | fail))
  (refine wpAnyP_take1 (i := 1) hP0 hP1 hP01 hC0 (by decide) rfl (by kernel_rfl) (by kernel_rfl) (by kernel_rfl) (fun _ _ _ _ h => h) (by rfl) ?_; apply Exists.intro; refine ⟨fun w1 h1 K hK => ?_, ?_⟩; · (have q9 : ∀ V : Aft w1, g7 < V.val.heap.size := fun V => (hP1 _ _ h1 V.below).2.lt; go_big_quiet_op; first | exact hK | fail))
  (refine wpAnyP_take1 (i := 2) hP0 hP1 hP01 hC0 (by decide) rfl (by kernel_rfl) (by kernel_rfl) (by kernel_rfl) (fun _ _ _ _ h => h) (by rfl) ?_; apply Exists.intro; refine ⟨fun w1 h1 K hK => ?_, ?_⟩; · (have q0 : ∀ V : Aft w1, V.val.cell? ⟨g7, 0, none⟩ = some (.int .i64 mx) := fun V => (hP1 _ _ h1 V.below).2.cell 0 rfl; go_big_quiet_op; first | exact hK | fail))
  (refine wpAnyP_take1 (i := 3) hP0 hP1 hP01 hC0 (by decide) rfl (by kernel_rfl) (by kernel_rfl) (by kernel_rfl) (fun _ _ _ _ h => h) (by rfl) ?_; apply Exists.intro; refine ⟨fun w1 h1 K hK => ?_, ?_⟩; · (have q9 : ∀ V : Aft w1, g7 < V.val.heap.size := fun V => (hP1 _ _ h1 V.below).2.lt; go_big_quiet_op; first | exact hK | fail))
  (refine wpAnyP_take1 (i := 4) hP0 hP1 hP01 hC0 (by decide) rfl (by kernel_rfl) (by kernel_rfl) (by kernel_rfl) (fun _ _ _ _ h => h) (by rfl) ?_; apply Exists.intro; refine ⟨fun w1 h1 K hK => ?_, ?_⟩; · (have q0 : ∀ V : Aft w1, V.val.cell? ⟨g7, 1, none⟩ = some (.int .i64 oh) := fun V => (hP1 _ _ h1 V.below).2.cell 1 rfl; go_big_quiet_op; first | exact hK | fail))
  (refine wpAnyP_take1 (i := 5) hP0 hP1 hP01 hC0 (by decide) rfl (by kernel_rfl) (by kernel_rfl) (by kernel_rfl) (fun _ _ _ _ h => h) (by rfl) ?_; apply Exists.intro; refine ⟨fun w1 h1 K hK => ?_, ?_⟩; · ( go_big_quiet_op; first | exact hK | fail))
  (refine wpAnyP_one (i := 6) (by kernel_rfl) rfl (by rfl) (fun wa hwa K hK => ?_))
  have hA1 := hP0 _ _ hC0 hwa
  refine wp_store_box (HS.out.below hA1) rfl rfl rfl rfl (by kernel_rfl) (by simp [Value.oneCell']) (fun wb zs ho => ?_); dsimp only [Act.put]
  have hLb : Below w.heap.size w wb := (HL.out.trans (hA1.mono HL.out.size)).trans (ho.below HGS.out)
  refine hK _ _ ⟨zs.lt, ho.box (HX.out.below hA1) (Ne.symm HNE.out)⟩ ?_
  clear hK K
  (refine wpAnyP_one (i := 7) (by kernel_rfl) rfl (by rfl) (fun wc hwc K hK => ?_))
  go_simp
  refine hK _ _ ⟨Nat.lt_of_lt_of_le zs.lt hwc.size, (ho.box (HX.out.below hA1) (Ne.symm HNE.out)).below hwc⟩ ?_
  clear hK K
  replace zs := zs.below hwc
  replace hLb := hLb.trans (hwc.mono hLb.size)
  refine wpAnyP_done (by kernel_rfl) (fun wz hwz => ?_) _
  have HZ := Lib.hid (zs.below hwz)
  have HZL := Lib.hid (hLb.trans (hwz.mono hLb.size))
  clear hP0 hP1 hP01 hC0 hwa hwc hA1 zs ho hLb hwz
  go_wp2_with fail
  refine bodyPost_ret (res414 rfl _ _ gs _ _ _ rfl rfl HZ.out) rfl ⟨?_, HZL.out⟩
  rw [HO.out]
  first
    | rfl
    | (simp)
set_option maxRecDepth 100000 in
set_option maxHeartbeats 4000000 in
theorem dcut_any (a b : Spn) (w : World) :
    Calls Try.prog 64 #[a.val, b.val] w fun e w' => e = .returned (cutS a b.lo b.hi).val ∧ Below w.heap.size w w' := by
  obtain ⟨al, ah⟩ := a
  obtain ⟨bl, bh⟩ := b
  go_enter Try.func64, Try.ntmps64
  go_upto_region 1 with fail
  have hb0 := ((below_alloc1 w (.cells #[.int .i64 al, .int .i64 ah] 41)).alloc (by simp) (.cells #[.int .i64 bl, .int .i64 bh] 41)).alloc (by simp; omega) (.cells #[.int .i64 0, .int .i64 0] 41)
  have hA := ((Box.new (g := w.heap.size) #[.int .i64 al, .int .i64 ah] 41 w rfl).old (.cells #[.int .i64 bl, .int .i64 bh] 41)).old (.cells #[.int .i64 0, .int .i64 0] 41)
  have hB := (Box.new (g := w.heap.size + 1) #[.int .i64 bl, .int .i64 bh] 41 (w.alloc (.cells #[.int .i64 al, .int .i64 ah] 41)) (by simp)).old (.cells #[.int .i64 0, .int .i64 0] 41)
  have hS := Box.new (g := w.heap.size + 1 + 1) #[.int .i64 0, .int .i64 0] 41 ((w.alloc (.cells #[.int .i64 al, .int .i64 ah] 41)).alloc (.cells #[.int .i64 bl, .int .i64 bh] 41)) (by simp)
  obtain ⟨W, hW⟩ : ∃ X, X = ((w.alloc (.cells #[.int .i64 al, .int .i64 ah] 41)).alloc (.cells #[.int .i64 bl, .int .i64 bh] 41)).alloc (.cells #[.int .i64 0, .int .i64 0] 41) := ⟨_, rfl⟩
  rw [← hW] at hb0 hA hB hS ⊢
  clear hW
  obtain ⟨g4, hg4⟩ : ∃ G, G = w.heap.size + 1 + 1 := ⟨_, rfl⟩
  rw [← hg4] at hS ⊢
  obtain ⟨g3, hg3⟩ : ∃ G, G = w.heap.size + 1 := ⟨_, rfl⟩
  rw [← hg3] at hB ⊢
  obtain ⟨g2, hg2⟩ : ∃ G, G = w.heap.size := ⟨_, rfl⟩
  rw [← hg2] at hA ⊢
  have HGS := Lib.hid (show w.heap.size ≤ g4 by omega)
  have HL := Lib.hid hb0
  have HS := Lib.hid hS
  clear hg2 hg3 hg4 hb0 hS
  have a0 := hA.cell 0 (v := .int .i64 al) rfl
  have a1 := hA.cell 1 (v := .int .i64 ah) rfl
  have al9 := hA.lt
  have b0 := hB.cell 0 (v := .int .i64 bl) rfl
  have b1 := hB.cell 1 (v := .int .i64 bh) rfl
  have bl9 := hB.lt
  have s0 := HS.out.cell 0 (v := .int .i64 0) rfl
  have s1 := HS.out.cell 1 (v := .int .i64 0) rfl
  have f0 := HS.out.frozen 0
  have f1 := HS.out.frozen 1
  have s9 := HS.out.lt
  have hmx : (if al < bl then bl else al) = max al bl := by split <;> omega
  have hmn : (if bh < ah then bh else ah) = min ah bh := by split <;> omega
  have HC := Lib.hid (show cutS ⟨al, ah⟩ bl bh = ⟨max al bl, min ah bh⟩ from rfl)
  obtain ⟨mx, hm1⟩ : ∃ x, x = max al bl := ⟨_, rfl⟩
  obtain ⟨mn, hm2⟩ : ∃ x, x = min ah bh := ⟨_, rfl⟩
  rw [← hm1] at hmx HC
  rw [← hm2] at hmn HC
  clear hm1 hm2 hA hB
  go_wp2_with fail
  refine bodyPost_ret (res41 rfl _ _ g4 _ _ rfl (HS.out.set2 (.int .i64 mx) (.int .i64 mn))) rfl ⟨by rw [HC.out], ((HL.out.setCell (p := ⟨g4, 0, none⟩) HGS.out (.int .i64 mx)).setCell (p := ⟨g4, 1, none⟩) HGS.out (.int .i64 mn))⟩
set_option maxRecDepth 100000 in
set_option maxHeartbeats 4000000 in
theorem dparts_any (oa : Option Addr) (n ca i : Nat) (z : Nat → Zon) (w : World) (hn : n ≤ 1000) (hA : ZonsAt w oa n z) :
    Calls Try.prog 49 #[.slice oa n ca, .int .i64 i] w fun e w' => (∃ oL cL, e = .returned (.slice oL (kidsTo z i n).length cL) ∧ IntsAt w' oL (kidsTo z i n).length (fun j => (((kidsTo z i n).getD j 0 : Nat) : Int)) ∧ ∀ a, oL = some a → w.heap.size ≤ a.block) ∧ Below w.heap.size w w' := by
  have HA := Lib.hid hA
  clear hA
  obtain ⟨iR, hiR, hzR0, hzR1, hzR2⟩ := info_parts (P := Try.prog) (e := 3) (z := .int .i64 0) (size := 1) (bytes := 8) (by kernel_rfl)
  have HIR := Lib.hid hiR
  have HZR := Lib.hid (And.intro hzR0 (And.intro hzR1 hzR2))
  clear hiR hzR0 hzR1 hzR2
  go_enter Try.func49, Try.ntmps49
  go_wp2_with fail
  go_loopw [5, 6] (fun v5 v6 wr => ∃ m : Nat, m ≤ n ∧ v6 = .int .i64 m ∧ Hid (wr.ownsRow w.heap.size 3 1 v5 (kidsTo z i m).length (inL (kidsTo z i m))) ∧ Hid (Below w.heap.size w wr)) (fun _ v6 _ => n - (intOf v6).toNat)
  case atStart => exact ⟨0, Nat.zero_le _, rfl, Lib.hid owns_none, Lib.hid (Below.refl _ _)⟩
  case round =>
    obtain ⟨m, hm, rfl, HOW, HL⟩ := hrel
    by_cases hlt : m < n
    · obtain ⟨b, off, hoa, hl, -, -, -, -, -, -, -, -, c8⟩ := (HA.out.mono HL.out) m hlt
      subst hoa
      have hk0 : (0 : Int) ≤ (m : Int) := by omega
      have hk1 : (m : Int) < (n : Int) := by omega
      have hwsz := HL.out.size
      by_cases hp : (z m).p = (i : Int)
      · have HSN := Lib.hid (show inL (kidsTo z i m) ++ [.int .i64 m] = inL (kidsTo z i (m + 1)) by rw [inL_snoc, ← kidsTo_some hp])
        have HLN := Lib.hid (show (kidsTo z i m).length + 1 = (kidsTo z i (m + 1)).length by rw [kidsTo_some hp]; simp)
        have hlen := kidsTo_len z i m
        rw [hp] at c8
        have hpb : ((i : Int) == (i : Int)) = true := by simp
        have hown := HOW.out
        obtain ⟨oL, cL, rfl, -⟩ := owns_form hown
        obtain ⟨K, hK⟩ : ∃ K, K = kidsTo z i m := ⟨_, rfl⟩
        rw [← hK] at hown HSN HLN hlen ⊢
        have HOW2 := Lib.hid hown
        clear hown HOW hp hK
        go_wp2_with (at_builtin; refine wpList_append_gen rfl (.tmp 20) (.tmp 22) _ rfl w.heap.size 3 iR _ 1 8 Try.underlying37 HIR.out HZR.out.1 HZR.out.2.1 HZR.out.2.2 rfl (by omega) (.slice oL K.length cL) K.length (inL K) rfl (some ⟨wr.heap.size, 0, none⟩) 1 1 [.int .i64 m] rfl (HOW2.out.alloc _) (fun e9 => by cases e9) rfl (fun ad9 e9 j9 u9 hu9 => by cases e9; exact news_blk1 (e := 3) (heap_new rfl) hu9) (by simp [Value.oneCell']) (by simp only [maxLen]; omega) (by omega) (by simp; omega) ?_; intro vS wS hownS hgrowS)
        have hbS : Below w.heap.size w wS := (HL.out.alloc HL.out.size _).trans (below_row HOW2.out hgrowS HL.out.size)
        rw [HSN.out, HLN.out] at hownS
        have HO2 := Lib.hid hownS
        have HL2 := Lib.hid hbS
        clear hownS hbS hgrowS hpb
        go_wp2_with fail
        go_roundw
        case rel => exact ⟨m + 1, by omega, by go_num, HO2, HL2⟩
        case measure => simp [intOf]; omega
      · have HK := Lib.hid (kidsTo_none (k := m) hp)
        obtain ⟨pp, hpp⟩ : ∃ v, v = (z m).p := ⟨_, rfl⟩
        rw [← hpp] at c8 hp
        have hpb : (pp == (i : Int)) = false := by simpa using hp
        clear hpp hp
        go_wp2_with fail
        go_roundw
        case rel => exact ⟨m + 1, by omega, by go_num, by rw [HK.out]; exact HOW, HL⟩
        case measure => simp [intOf]; omega
    · have hmn : n = m := by omega
      subst hmn
      obtain ⟨oL, cL, rfl, hin, hba⟩ := owns_ints HOW.out
      have H1 := Lib.hid hin
      have H2 := Lib.hid hba
      clear hin hba
      go_wp2_with fail
      go_ret
      exact ⟨⟨oL, cL, rfl, H1.out, H2.out⟩, HL.out⟩
/-- a zone is another one, or below it -/
noncomputable def undB (z : Nat → Zon) (q i : Nat) : Bool := @decide (Und z q i) (Classical.propDecidable _)
theorem undB_iff {z : Nat → Zon} {q i : Nat} : undB z q i = true ↔ Und z q i := by unfold undB; exact @decide_eq_true_iff _ (Classical.propDecidable _)
theorem undB_self {z : Nat → Zon} {q : Nat} : undB z q q = true := undB_iff.2 .refl
theorem undB_top {z : Nat → Zon} {q i : Nat} (h : i ≠ q) (hp : (z i).p = -1) : undB z q i = false := by
  rw [← Bool.not_eq_true, undB_iff]
  intro hu
  cases hu with
  | refl => exact h rfl
  | up hp2 _ => rw [hp] at hp2; omega
theorem undB_up {z : Nat → Zon} {q i c : Nat} (h : i ≠ q) (hp : (z i).p = (c : Int)) : undB z q i = undB z q c := by
  rw [Bool.eq_iff_iff, undB_iff, undB_iff]
  constructor
  · intro hu
    cases hu with
    | refl => exact absurd rfl h
    | @up _ d hp2 hu =>
      have e : c = d := by rw [hp] at hp2; omega
      rw [e]; exact hu
  · intro hu
    exact .up hp hu
set_option maxRecDepth 100000 in
set_option maxHeartbeats 4000000 in
theorem below_any (oa : Option Addr) (n ca : Nat) (z : Nat → Zon) (q : Nat) (hz : Tree z n) : ∀ (i : Nat) (w : World), i < n → ZonsAt w oa n z →
    Calls Try.prog 40 #[.slice oa n ca, .int .i64 i, .int .i64 q] w fun e w' => e = .returned (.bool (undB z q i)) ∧ Below w.heap.size w w' := by
  intro i
  induction i using Nat.strongRecOn with
  | _ i ih =>
    intro w hi hA
    have HA := Lib.hid hA
    clear hA
    by_cases hq : i = q
    · have HU := Lib.hid (show undB z q i = true by rw [hq]; exact undB_self)
      have hqb : ((i : Int) == (q : Int)) = true := by simp; omega
      clear hq ih
      go_enter Try.func40, Try.ntmps40
      go_wp2_with fail
      go_ret
      exact ⟨by rw [HU.out]; first | done | rfl, Below.refl _ _⟩
    · have hqb : ((i : Int) == (q : Int)) = false := by simp; omega
      have hk0 : (0 : Int) ≤ (i : Int) := by omega
      have hk1 : (i : Int) < (n : Int) := by omega
      have hd : decide ((0 : Int) ≤ (i : Int)) = true := decide_eq_true hk0
      obtain ⟨b, off, hoa, hl, -, -, -, -, -, -, -, -, c8⟩ := HA.out i hi
      subst hoa
      have h0 := hz i hi
      by_cases hp : (z i).p = -1
      · have HU := Lib.hid (undB_top hq hp)
        rw [hp] at c8
        clear hq ih hp h0
        go_enter Try.func40, Try.ntmps40
        go_wp2_with fail
        go_ret
        exact ⟨by rw [HU.out]; first | done | rfl, Below.refl _ _⟩
      · obtain ⟨c, hc⟩ : ∃ c : Nat, (z i).p = (c : Int) := ⟨(z i).p.toNat, by omega⟩
        have HU := Lib.hid (undB_up hq hc)
        have HIH := Lib.hid (ih c (by omega) w (by omega) HA.out)
        rw [hc] at c8
        have hcn : ((c : Int) != -1) = true := by first | (simp; done) | (simp; omega)
        clear hq ih hp h0 hc
        go_enter Try.func40, Try.ntmps40
        go_wp2_with fail
        refine HIH.out.mono ?_
        rintro e w1 ⟨rfl, hb⟩
        rw [← HU.out]
        have HB := Lib.hid hb
        obtain ⟨bv, hbv⟩ : ∃ v, v = undB z q i := ⟨_, rfl⟩
        rw [← hbv]
        have HBV := Lib.hid hbv
        clear hb hbv
        go_wp2_with fail
        go_ret
        exact ⟨by first | rfl | (rw [← HBV.out]; done) | (rw [← HBV.out]; rfl), HB.out⟩
end Go.Proofs.Ytipnaeijbbbdoaa
