/- Travel: the document's choose: a set that is whole. -/
import Derived.Test.YtldodmfmibeoiaaDoorP12
namespace Go.Proofs.YtldodmfmibeoiaaDoor
open Go.RowKit
theorem AR.low {g : Nat} {cs : Array Value} {w Wr A : World} (h : AR g cs Wr A) (hb : Below w.heap.size w Wr) (hg : w.heap.size ≤ g) : Below w.heap.size w A :=
  hb.trans (h.same.below hb.size fun k hk => ⟨Nat.lt_of_lt_of_le hk hb.size, by omega⟩)
/-- what choose leaves -/
def ChPost (r : Rnd) (off : Int) (k : Nat) (L : List Nat) (w : World) (e : Ending) (w' : World) : Prop := Below w.heap.size w w' ∧
  ((ChI r off k L none ∧ e = .returned (.slice none 0 0)) ∨ ∃ M a c, ChI r off k L (some M) ∧ e = .returned (.slice (some a) M.length c) ∧ IntsAt w' (some a) M.length (fun i => ((M.getD i 0 : Nat) : Int)))
set_option maxRecDepth 100000 in
set_option maxHeartbeats 8000000 in
theorem choose_leaf (r : Rnd) (oa : Option Addr) (ca : Nat) (off : Int) (lo : Option Addr) (lc many : Nat) (L : List Nat) (w : World) (hv : r.valid = true) (hg : GoodL r.n L) (hm : L.length = many) (hm1 : 1 ≤ many) (hI : IntsAt w lo many (fun i => ((L.getD i 0 : Nat) : Int))) (hA : TrpsAt w oa r.n r.t) :
    Calls Tryd.prog 48 #[r.val oa ca, .int .i64 off, .int .i64 (many : Nat), .slice lo many lc] w (ChPost r off 0 L w) := by
  have HA := Lib.hid hA
  have HI := Lib.hid hI
  have HM := Lib.hid hm
  have HV := Lib.hid hv
  have HG := Lib.hid hg
  have hn14 := (Rnd.valid_head hv).2.2.2
  have hlen := good_len hg
  have hmany : many ≤ 14 := by omega
  obtain ⟨a0, ha0⟩ : ∃ a0, lo = some a0 := by obtain ⟨b9, o9, q, -⟩ := hI 0 (by omega); exact ⟨_, q⟩
  subst ha0
  obtain ⟨T, hT⟩ : ∃ T : Nat → Trp, T = fun k => r.t (L.getD k 0) := ⟨_, rfl⟩
  have HT := Lib.hid (show ∀ k, T k = r.t (L.getD k 0) by rw [hT]; exact fun _ => rfl)
  have HVS := Lib.hid (show (r.sub many T).valid = true by rw [hT, ← hm]; exact Rnd.sub_good hv hg)
  have HBD := Lib.hid (show badL r off L = !FitsW r off many T by rw [hT, ← hm]; rfl)
  have HGM := Lib.hid (show ∀ k, k < many → L.getD k 0 < r.n from fun k hk => hg.2 _ (getD_mem (by omega)))
  clear hA hI hm hv hg hT hlen
  obtain ⟨iR, hiR, hzR0, hzR1, hzR2⟩ := info_parts (P := Tryd.prog) (e := 48) (z := .agg #[.int .i64 0, .int .i64 0, .int .i64 0, .int .i64 0]) (size := 4) (bytes := 32) (by kernel_rfl)
  go_enter Tryd.func48, Tryd.ntmps48
  have zz : ((many : Int) == (many : Int)) = true := by simp
  go_wp2_with fail
  have hb0 := below_alloc1 w (.cells #[.int .i64 r.nb, .int .i64 r.nm, .int .i64 r.most, .slice oa r.n ca] 24)
  have hB := Box.new (g := w.heap.size) #[.int .i64 r.nb, .int .i64 r.nm, .int .i64 r.most, .slice oa r.n ca] 24 w rfl
  obtain ⟨W, hW⟩ : ∃ X, X = w.alloc (.cells #[.int .i64 r.nb, .int .i64 r.nm, .int .i64 r.most, .slice oa r.n ca] 24) := ⟨_, rfl⟩
  rw [← hW] at hb0 hB ⊢
  clear hW
  have HGR := Lib.hid (Nat.le_refl w.heap.size)
  obtain ⟨gr, hgr⟩ : ∃ G, G = w.heap.size := ⟨_, rfl⟩
  rw [← hgr] at hB ⊢
  replace HGR := Lib.hid (show w.heap.size ≤ gr by omega)
  clear hgr
  have HL0 := Lib.hid hb0
  have HAR := Lib.hid (show AR gr #[.int .i64 r.nb, .int .i64 r.nm, .int .i64 r.most, .slice oa r.n ca] W W from ⟨Same.refl _ _, hB, hB.lt⟩)
  clear hB hb0
  go_loopw [9, 10] (fun v9 v10 wr => ∃ i : Nat, i ≤ many ∧ v10 = .int .i64 i ∧ Hid (wr.ownsRow W.heap.size 48 4 v9 i (trpNews i T)) ∧ Hid (AR gr #[.int .i64 r.nb, .int .i64 r.nm, .int .i64 r.most, .slice oa r.n ca] W wr)) (fun _ i _ => many - (intOf i).toNat)
  case atStart => exact ⟨0, by omega, rfl, Lib.hid owns_none, HAR⟩
  case round =>
    clear HAR
    obtain ⟨i, hi, rfl, HOW, HAR⟩ := hrel
    by_cases hlt : i < many
    · have hlow := HAR.out.low HL0.out HGR.out
      obtain ⟨bb, bo, e9, hbl, hbc⟩ := HI.out i hlt
      cases e9
      have hmn := HGM.out i hlt
      have HTI := Lib.hid (HT.out i)
      obtain ⟨m, hm⟩ : ∃ m, m = L.getD i 0 := ⟨_, rfl⟩
      simp only at hbc
      rw [← hm] at hbc hmn HTI
      clear hm
      obtain ⟨tb, tq, e8, htl, t0, t1, t2, t3⟩ := HA.out m hmn
      subst e8
      have HN := Lib.hid (show trpNews i T ++ [.int .i64 (r.t m).b, .int .i64 (r.t m).m, .int .i64 (r.t m).lo, .int .i64 (r.t m).hi] = trpNews (i + 1) T by rw [trpNews_succ, HTI.out])
      obtain ⟨S, hS⟩ : ∃ S, S = r.t m := ⟨_, rfl⟩
      rw [← hS] at t0 t1 t2 t3 HN
      clear hS HTI
      have HCL := Lib.hid (And.intro (And.intro hbl htl) (And.intro hbc (And.intro t0 (And.intro t1 (And.intro t2 t3)))))
      clear hbl htl hbc t0 t1 t2 t3
      have x0 : (0 : Int) ≤ (i : Int) := by omega
      have x1 : (i : Int) < (many : Int) := by omega
      have x2 : (0 : Int) ≤ (m : Int) := by omega
      have x3 : (m : Int) < (r.n : Int) := by omega
      obtain ⟨oS, cS, rfl, -⟩ := owns_form HOW.out
      go_upto_region 6 with fail
      have hCC : ∀ A B : World, AR gr #[.int .i64 r.nb, .int .i64 r.nm, .int .i64 r.most, .slice (some ⟨tb, tq, none⟩) r.n ca] W A → Below A.heap.size A B → AR gr #[.int .i64 r.nb, .int .i64 r.nm, .int .i64 r.most, .slice (some ⟨tb, tq, none⟩) r.n ca] W B := fun A B h1 h2 => h1.on h2
      have hC0 := hCC _ _ HAR.out (Below.refl wr.heap.size wr).drew
      have hown := owns_below HOW.out (Below.refl wr.heap.size wr).drew
      have HLW := Lib.hid (fun (A : World) (h : AR gr #[.int .i64 r.nb, .int .i64 r.nm, .int .i64 r.most, .slice (some ⟨tb, tq, none⟩) r.n ca] W A) => h.low HL0.out HGR.out)
      clear hlow
      refine wp_region_garb (fun A => AR gr #[.int .i64 r.nb, .int .i64 r.nm, .int .i64 r.most, .slice (some ⟨tb, tq, none⟩) r.n ca] W A) (by kernel_rfl) ?_
      (refine wpAnyG_take (i := 0) hCC hC0 rfl (by kernel_rfl) (by kernel_rfl) (by kernel_rfl) (fun _ _ _ _ h => h) (by rfl) ?_; apply Exists.intro; refine ⟨fun w1 h1 K hK => ?_, ?_⟩; · ( go_big_quiet_op; first | exact hK | fail))
      (refine wpAnyG_take (i := 1) hCC hC0 rfl (by kernel_rfl) (by kernel_rfl) (by kernel_rfl) (fun _ _ _ _ h => h) (by rfl) ?_; apply Exists.intro; refine ⟨fun w1 h1 K hK => ?_, ?_⟩; · (have q4 : ∀ V : Aft w1, gr < V.val.heap.size := fun V => (hCC _ _ h1 V.below).box.lt; go_big_quiet_op; first | exact hK | fail))
      (refine wpAnyG_take (i := 2) hCC hC0 rfl (by kernel_rfl) (by kernel_rfl) (by kernel_rfl) (fun _ _ _ _ h => h) (by rfl) ?_; apply Exists.intro; refine ⟨fun w1 h1 K hK => ?_, ?_⟩; · (have q4 : ∀ V : Aft w1, V.val.cell? ⟨gr, 3, none⟩ = some (.slice (some ⟨tb, tq, none⟩) r.n ca) := fun V => (hCC _ _ h1 V.below).box.cell 3 rfl; go_big_quiet_op; first | exact hK | fail))
      (refine wpAnyG_take (i := 3) hCC hC0 rfl (by kernel_rfl) (by kernel_rfl) (by kernel_rfl) (fun _ _ _ _ h => h) (by rfl) ?_; apply Exists.intro; refine ⟨fun w1 h1 K hK => ?_, ?_⟩; · ( go_big_quiet_op; first | exact hK | fail))
      (refine wpAnyG_take (i := 4) hCC hC0 rfl (by kernel_rfl) (by kernel_rfl) (by kernel_rfl) (fun _ _ _ _ h => h) (by rfl) ?_; apply Exists.intro; refine ⟨fun w1 h1 K hK => ?_, ?_⟩; · ( go_big_quiet_op; first | exact hK | fail))
      (refine wpAnyG_take (i := 5) hCC hC0 rfl (by kernel_rfl) (by kernel_rfl) (by kernel_rfl) (fun _ _ _ _ h => h) (by rfl) ?_; apply Exists.intro; refine ⟨fun w1 h1 K hK => ?_, ?_⟩; · (have q4 : ∀ V : Aft w1, bb < V.val.heap.size := fun V => Nat.lt_of_lt_of_le HCL.out.1.1 (HLW.out _ (hCC _ _ h1 V.below)).size; go_big_quiet_op; first | exact hK | fail))
      (refine wpAnyG_take (i := 6) hCC hC0 rfl (by kernel_rfl) (by kernel_rfl) (by kernel_rfl) (fun _ _ _ _ h => h) (by rfl) ?_; apply Exists.intro; refine ⟨fun w1 h1 K hK => ?_, ?_⟩; · (have q4 : ∀ V : Aft w1, V.val.cell? ⟨bb, bo + i, none⟩ = some (.int .i64 (m : Nat)) := fun V => ((HLW.out _ (hCC _ _ h1 V.below)).cell (p := ⟨bb, bo + i, none⟩) HCL.out.1.1).trans HCL.out.2.1; go_big_quiet_op; first | exact hK | fail))
      (refine wpAnyG_take (i := 7) hCC hC0 rfl (by kernel_rfl) (by kernel_rfl) (by kernel_rfl) (fun _ _ _ _ h => h) (by rfl) ?_; apply Exists.intro; refine ⟨fun w1 h1 K hK => ?_, ?_⟩; · (have q4 : ∀ V : Aft w1, tb < V.val.heap.size := fun V => Nat.lt_of_lt_of_le HCL.out.1.2 (HLW.out _ (hCC _ _ h1 V.below)).size; go_big_quiet_op; first | exact hK | fail))
      (refine wpAnyG_take (i := 8) hCC hC0 rfl (by kernel_rfl) (by kernel_rfl) (by kernel_rfl) (fun _ _ _ _ h => h) (by rfl) ?_; apply Exists.intro; refine ⟨fun w1 h1 K hK => ?_, ?_⟩; · (have q0 : ∀ V : Aft w1, V.val.cell? ⟨tb, tq + m * 4, none⟩ = some (.int .i64 S.b) := fun V => ((HLW.out _ (hCC _ _ h1 V.below)).cell (p := ⟨tb, tq + m * 4, none⟩) HCL.out.1.2).trans HCL.out.2.2.1; have q1 : ∀ V : Aft w1, V.val.cell? ⟨tb, tq + m * 4 + 1, none⟩ = some (.int .i64 S.m) := fun V => ((HLW.out _ (hCC _ _ h1 V.below)).cell (p := ⟨tb, tq + m * 4 + 1, none⟩) HCL.out.1.2).trans HCL.out.2.2.2.1; have q2 : ∀ V : Aft w1, V.val.cell? ⟨tb, tq + m * 4 + 1 + 1, none⟩ = some (.int .i64 S.lo) := fun V => ((HLW.out _ (hCC _ _ h1 V.below)).cell (p := ⟨tb, tq + m * 4 + 1 + 1, none⟩) HCL.out.1.2).trans HCL.out.2.2.2.2.1; have q3 : ∀ V : Aft w1, V.val.cell? ⟨tb, tq + m * 4 + 1 + 1 + 1, none⟩ = some (.int .i64 S.hi) := fun V => ((HLW.out _ (hCC _ _ h1 V.below)).cell (p := ⟨tb, tq + m * 4 + 1 + 1 + 1, none⟩) HCL.out.1.2).trans HCL.out.2.2.2.2.2; have q4 : ∀ V : Aft w1, tb < V.val.heap.size := fun V => Nat.lt_of_lt_of_le HCL.out.1.2 (HLW.out _ (hCC _ _ h1 V.below)).size; go_big_quiet_op; first | exact hK | fail))
      (refine wpAnyG_one (i := 9) (by kernel_rfl) rfl (by rfl) (fun wa hwa K hK => ?_))
      go_simp
      have hA0 := (hC0.on hwa).on (below_alloc1 wa (.cells #[.int .i64 S.b, .int .i64 S.m, .int .i64 S.lo, .int .i64 S.hi] 48))
      refine hK _ _ hA0 ?_
      clear hK K
      have zN := Box.new (g := wa.heap.size) #[.int .i64 S.b, .int .i64 S.m, .int .i64 S.lo, .int .i64 S.hi] 48 wa rfl
      have hown2 := owns_below (owns_below hown hwa) (below_alloc1 wa (.cells #[.int .i64 S.b, .int .i64 S.m, .int .i64 S.lo, .int .i64 S.hi] 48))
      clear hown hwa hC0
      obtain ⟨gN, hG⟩ : ∃ G, G = wa.heap.size := ⟨_, rfl⟩
      obtain ⟨wA, hWA⟩ : ∃ X, X = wa.alloc (.cells #[.int .i64 S.b, .int .i64 S.m, .int .i64 S.lo, .int .i64 S.hi] 48) := ⟨_, rfl⟩
      rw [← hWA] at zN hA0 hown2 ⊢
      rw [← hG] at zN ⊢
      clear hG hWA
      (refine wpAnyG_one (i := 10) (by kernel_rfl) rfl (by rfl) (fun wb hwb K hK => ?_))
      have hC1 := hA0.on hwb
      have hown1 := owns_below hown2 hwb
      have zN1 := zN.below hwb
      refine wp_append_gen (.tmp 23) (.tmp 32) 22 rfl W.heap.size 48 iR _ 4 32 Tryd.underlying22 hiR hzR0 hzR1 hzR2 rfl (by omega) (.slice oS i cS) i (trpNews i T) rfl hown1 (some ⟨gN, 0, none⟩) 1 1 [.int .i64 S.b, .int .i64 S.m, .int .i64 S.lo, .int .i64 S.hi] rfl (fun e9 => by cases e9) rfl (fun ad9 e9 j9 u9 hu9 => by cases e9; rw [add_flat, Nat.zero_add]; exact zN1.cell j9 (by rw [List.getElem?_toArray]; exact hu9)) (by simp [Value.oneCell']) (by simp only [maxLen]; omega) (by omega) hC1.same.size (fun vS wS hownS hgrowS => ?_)
      have hA1 := hC1.grown hown1 (Nat.le_refl _) hgrowS
      rw [HN.out] at hownS
      clear hown1 hgrowS hC1 hown2 hwb hA0 zN1 zN
      go_simp
      refine hK _ _ hA1 ?_
      clear hK K
      (refine wpAnyG_one (i := 11) (by kernel_rfl) rfl (by rfl) (fun wc hwc K hK => ?_))
      go_simp
      refine hK _ _ (hA1.on hwc) ?_
      clear hK K
      refine wpAnyG_done (by kernel_rfl) (fun wz hwz => ?_) _
      have HAZ := Lib.hid ((hA1.on hwc).on hwz)
      have HOZ := Lib.hid (owns_below (owns_below hownS hwc) hwz)
      clear hA1 hwc hwz hownS hCC HLW HOW HAR HCL HN
      go_wp2_with fail
      go_roundw
      case rel => exact ⟨i + 1, by omega, by go_num, HOZ, HAZ⟩
      case measure => simp [intOf]; omega
    · obtain rfl : i = many := by omega
      obtain ⟨oT, cT, rfl, hTR⟩ := owns_trps HOW.out
      have HTR := Lib.hid hTR
      have HLW := Lib.hid (HAR.out.low HL0.out HGR.out)
      have HBX := Lib.hid HAR.out.box
      have b0 := HBX.out.cell 0 (v := .int .i64 r.nb) rfl
      have b1 := HBX.out.cell 1 (v := .int .i64 r.nm) rfl
      have b2 := HBX.out.cell 2 (v := .int .i64 r.most) rfl
      have b3 := HBX.out.cell 3 (v := .slice oa r.n ca) rfl
      have b4 := HBX.out.lt
      clear hTR HOW HAR
      go_wp2_with fail
      refine (fitsW_any r oa ca off oT i cT T wr HVS.out HTR.out).mono ?_
      rintro e w2 ⟨rfl, hb2⟩
      have HL2 := Lib.hid (HLW.out.trans (hb2.mono HLW.out.size))
      clear hb2 HLW b0 b1 b2 b3 b4 HBX HTR
      obtain ⟨q, hq⟩ : ∃ q, q = FitsW r off i T := ⟨_, rfl⟩
      rw [← hq] at HBD ⊢
      clear hq
      cases q
      · have HP := Lib.hid (show ChPost r off 0 L w (.returned (.slice (some a0) i lc)) w2 from ⟨HL2.out, .inr ⟨L, a0, lc, ChI.leaf_bad HG.out HBD.out, by rw [HM.out], by rw [HM.out]; exact HI.out.mono HL2.out⟩⟩)
        go_wp2_with fail
        go_ret
        exact HP.out
      · have HP := Lib.hid (show ChPost r off 0 L w (.returned (.slice none 0 0)) w2 from ⟨HL2.out, .inl ⟨ChI.leaf_fine HBD.out, rfl⟩⟩)
        go_wp2_with fail
        go_ret
        exact HP.out
end Go.Proofs.YtldodmfmibeoiaaDoor
