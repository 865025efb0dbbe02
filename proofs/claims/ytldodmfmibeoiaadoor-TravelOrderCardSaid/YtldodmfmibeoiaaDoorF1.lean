/- TravelProof's closure: does the suspicion fit some trips, but one of them. -/
import Derived.Test.YtldodmfmibeoiaaDoorR7
namespace Go.Proofs.YtldodmfmibeoiaaDoor
open Go.RowKit
/-- the first of a list, but one of them -/
def dropK (L : List Nat) (but : Int) : Nat → List Nat
  | 0 => []
  | i + 1 => if (i : Int) = but then dropK L but i else dropK L but i ++ [L.getD i 0]
theorem dropK_sub (L : List Nat) (but : Int) : ∀ i, i ≤ L.length → (dropK L but i).Sublist (L.take i)
  | 0, _ => by simp [dropK]
  | i + 1, h => by
    have ih := dropK_sub L but i (by omega)
    have e : L.take (i + 1) = L.take i ++ [L.getD i 0] := by
      rw [List.take_add_one, List.getElem?_eq_getElem (by omega), List.getD_eq_getElem?_getD, List.getElem?_eq_getElem (by omega)]
      rfl
    unfold dropK
    rw [e]
    split
    · exact List.Sublist.trans ih (List.sublist_append_left _ _)
    · exact ih.append (List.Sublist.refl _)
theorem dropK_good {n : Nat} {L : List Nat} (h : GoodL n L) (but : Int) {i : Nat} (hi : i ≤ L.length) : GoodL n (dropK L but i) := by
  have h1 := (dropK_sub L but i hi).trans (List.take_sublist i L)
  exact ⟨h.1.sublist h1, fun m hm => h.2 m (h1.subset hm)⟩
theorem dropK_len (L : List Nat) (but : Int) (i : Nat) : (dropK L but i).length ≤ i := by
  induction i with
  | zero => simp [dropK]
  | succ i ih =>
    unfold dropK
    split
    · omega
    · rw [List.length_append, List.length_singleton]; omega
theorem dropK_all (L : List Nat) : ∀ i, i ≤ L.length → dropK L (-1) i = L.take i
  | 0, _ => by simp [dropK]
  | i + 1, h => by
    unfold dropK
    rw [if_neg (by omega), dropK_all L i (by omega), List.take_add_one, List.getElem?_eq_getElem (by omega), List.getD_eq_getElem?_getD, List.getElem?_eq_getElem (by omega)]
    rfl
theorem dropK_one (L : List Nat) {j : Nat} : ∀ i, (dropK L (j : Nat) i).length = if j < i then i - 1 else i
  | 0 => by simp [dropK]
  | i + 1 => by
    have ih := dropK_one L (j := j) i
    unfold dropK
    by_cases h : i = j
    · subst h
      rw [if_pos rfl, ih, if_neg (by omega), if_pos (by omega)]
      omega
    · rw [if_neg (by omega), List.length_append, List.length_singleton, ih]
      by_cases h2 : j < i
      · rw [if_pos h2, if_pos (by omega)]; omega
      · rw [if_neg h2, if_neg (by omega)]
theorem AR.only {g : Nat} {cs ds : Array Value} {Wr A B : World} (h : AR g cs Wr A) (ho : Only g A B) (hb : Box g ds 24 B) : AR g ds Wr B :=
  ⟨h.same.trans ⟨ho.os, ho.tape, ho.output, Nat.le_of_eq ho.size.symm, fun b _ hp => ho.block b hp.2⟩, hb, h.lt⟩
theorem Rnd.err_sub {r : Rnd} {off : Int} (he : r.err off = 0) {n : Nat} {t : Nat → Trp} (hv : (r.sub n t).valid = true) : (r.sub n t).err off = 0 := by
  have h9 : r.valid = true := (Rnd.err_zero he).1
  unfold Rnd.err at he ⊢
  rw [if_neg (by rw [h9]; simp)] at he
  rw [if_neg (by rw [hv]; simp)]
  exact he
/-- the trips of a list, as cells -/
def trpL (r : Rnd) (M : List Nat) : List Value := trpNews M.length (fun k => r.t (M.getD k 0))
theorem trpL_snoc (r : Rnd) (M : List Nat) (m : Nat) : trpL r M ++ [.int .i64 (r.t m).b, .int .i64 (r.t m).m, .int .i64 (r.t m).lo, .int .i64 (r.t m).hi] = trpL r (M ++ [m]) := by
  unfold trpL
  rw [List.length_append, List.length_singleton, trpNews_succ]
  have e1 : (M ++ [m]).getD M.length 0 = m := by simp [List.getD_eq_getElem?_getD]
  rw [e1, trpNews_congr (f := fun k => r.t ((M ++ [m]).getD k 0)) (g := fun k => r.t (M.getD k 0)) fun i hi => by
    show r.t _ = r.t _
    rw [List.getD_eq_getElem?_getD, List.getD_eq_getElem?_getD, List.getElem?_append_left hi]]
set_option maxRecDepth 100000 in
set_option maxHeartbeats 8000000 in
theorem proof_any (r : Rnd) (oa : Option Addr) (ca : Nat) (off but : Int) (gR gO : Nat) (L : List Nat) (lo : Option Addr) (lc ℓ : Nat) (w : World) (he : r.err off = 0) (hg : GoodL r.n L) (hℓ : L.length = ℓ) (hR : Box gR #[.int .i64 r.nb, .int .i64 r.nm, .int .i64 r.most, .slice oa r.n ca] 24 w) (hO : Box gO #[.int .i64 off] 3 w)
    (hI : IntsAt w lo ℓ (fun i => ((L.getD i 0 : Nat) : Int))) (hA : TrpsAt w oa r.n r.t) (hT : TabAt 1 Lib.deBruijn64tab w) (h1 : 1 < w.heap.size) :
    Calls Tryd.prog 27 #[.slice lo ℓ lc, .int .i64 but, .pointer (some ⟨gR, 0, none⟩), .pointer (some ⟨gO, 0, none⟩)] w fun e w' => e = .returned (.bool (!badL r off (dropK L but ℓ))) ∧ Below w.heap.size w w' := by
  have hv := (Rnd.err_zero he).1
  have hn14 := (Rnd.valid_head hv).2.2.2
  have hlen := good_len hg
  have HA := Lib.hid hA
  have HI := Lib.hid hI
  have HT := Lib.hid hT
  have HR := Lib.hid hR
  have HO := Lib.hid hO
  have HGM := Lib.hid (show ∀ k, k < ℓ → L.getD k 0 < r.n from fun k hk => hg.2 _ (getD_mem (by omega)))
  have HDL := Lib.hid (fun i => dropK_len L but i)
  have HVS := Lib.hid (show (r.sub (dropK L but ℓ).length (fun k => r.t ((dropK L but ℓ).getD k 0))).valid = true from Rnd.sub_good hv (dropK_good hg but (by omega)))
  have HES := Lib.hid (Rnd.err_sub he HVS.out)
  have hℓ14 : ℓ ≤ 14 := by omega
  have c0 := hR.cell 0 (v := .int .i64 r.nb) rfl
  have c1 := hR.cell 1 (v := .int .i64 r.nm) rfl
  have c2 := hR.cell 2 (v := .int .i64 r.most) rfl
  have c3 := hR.cell 3 (v := .slice oa r.n ca) rfl
  have c4 := hR.lt
  clear hA hI hT hR hO hv hg hℓ hlen he
  obtain ⟨iR, hiR, hzR0, hzR1, hzR2⟩ := info_parts (P := Tryd.prog) (e := 48) (z := .agg #[.int .i64 0, .int .i64 0, .int .i64 0, .int .i64 0]) (size := 4) (bytes := 32) (by kernel_rfl)
  go_enter Tryd.func27, Tryd.ntmps27
  go_upto_region 3 with fail
  have hb0 := below_alloc1 w (.cells #[.int .i64 r.nb, .int .i64 r.nm, .int .i64 r.most, .slice none 0 0] 24)
  have hB := Box.new (g := w.heap.size) #[.int .i64 r.nb, .int .i64 r.nm, .int .i64 r.most, .slice none 0 0] 24 w rfl
  obtain ⟨W, hW⟩ : ∃ X, X = w.alloc (.cells #[.int .i64 r.nb, .int .i64 r.nm, .int .i64 r.most, .slice none 0 0] 24) := ⟨_, rfl⟩
  rw [← hW] at hb0 hB ⊢
  clear hW
  have nR : gR ≠ w.heap.size := by omega
  obtain ⟨gx, hgr⟩ : ∃ G, G = w.heap.size := ⟨_, rfl⟩
  rw [← hgr] at hB nR ⊢
  have HGX := Lib.hid (show w.heap.size ≤ gx by omega)
  clear hgr c0 c1 c2 c3 c4
  have HL0 := Lib.hid hb0
  have HAR := Lib.hid (show AR gx #[.int .i64 r.nb, .int .i64 r.nm, .int .i64 r.most, .slice none 0 0] W W from ⟨Same.refl _ _, hB, hB.lt⟩)
  clear hB hb0
  go_wp2_with fail
  go_loopw [8] (fun v8 wr => ∃ (i : Nat) (vS : Value), i ≤ ℓ ∧ v8 = .int .i64 i ∧ Hid (wr.ownsRow W.heap.size 48 4 vS (dropK L but i).length (trpL r (dropK L but i))) ∧ Hid (AR gx #[.int .i64 r.nb, .int .i64 r.nm, .int .i64 r.most, vS] W wr)) (fun i _ => ℓ - (intOf i).toNat)
  case atStart => exact ⟨0, .slice none 0 0, by omega, rfl, Lib.hid owns_none, HAR⟩
  case round =>
    clear HAR
    obtain ⟨i, vS, hi, rfl, HOW, HAR⟩ := hrel
    obtain ⟨oS, cS, rfl, -⟩ := owns_form HOW.out
    by_cases hlt : i < ℓ
    · have hd1 : decide ((i : Int) < (ℓ : Int)) = true := by simp; omega
      by_cases hib : (i : Int) = but
      · have hq : ((i : Int) != but) = false := by simp [hib]
        have HE := Lib.hid (show dropK L but (i + 1) = dropK L but i by show (if _ then _ else _) = _; rw [if_pos hib])
        have HOW2 := Lib.hid (show wr.ownsRow W.heap.size 48 4 (.slice oS (dropK L but i).length cS) (dropK L but (i + 1)).length (trpL r (dropK L but (i + 1))) by rw [HE.out]; exact HOW.out)
        clear hib HE HOW
        go_wp2_with fail
        go_roundw
        case rel => exact ⟨i + 1, _, by omega, by go_num, HOW2, HAR⟩
        case measure => simp [intOf]; omega
      · have hq : ((i : Int) != but) = true := by simp [hib]
        have HE := Lib.hid (show dropK L but (i + 1) = dropK L but i ++ [L.getD i 0] by show (if _ then _ else _) = _; rw [if_neg hib])
        have HDN := Lib.hid (show (dropK L but (i + 1)).length = (dropK L but i).length + 1 by rw [HE.out, List.length_append, List.length_singleton])
        have HTN := Lib.hid (show ∀ m, m = L.getD i 0 → trpL r (dropK L but i) ++ [.int .i64 (r.t m).b, .int .i64 (r.t m).m, .int .i64 (r.t m).lo, .int .i64 (r.t m).hi] = trpL r (dropK L but (i + 1)) from fun m hm => by rw [trpL_snoc, HE.out, hm])
        have hdl := HDL.out i
        obtain ⟨xs, hxs⟩ : ∃ xs, xs = trpL r (dropK L but i) := ⟨_, rfl⟩
        obtain ⟨d, hd⟩ : ∃ d, d = (dropK L but i).length := ⟨_, rfl⟩
        have HXL := Lib.hid (HOW.out.1)
        rw [← hxs] at HTN HOW
        rw [← hd] at HDN HOW hdl HAR
        clear hib HE hxs hd HXL
        obtain ⟨bb, bo, e9, hbl, hbc⟩ := HI.out i hlt
        subst e9
        have hmn := HGM.out i hlt
        simp only at hbc
        obtain ⟨m, hm⟩ : ∃ m, m = L.getD i 0 := ⟨_, rfl⟩
        have HN := Lib.hid (HTN.out m hm)
        rw [← hm] at hbc hmn
        clear hm HTN
        obtain ⟨tb, tq, e8, htl, t0, t1, t2, t3⟩ := HA.out m hmn
        subst e8
        obtain ⟨S, hS⟩ : ∃ S, S = r.t m := ⟨_, rfl⟩
        rw [← hS] at t0 t1 t2 t3 HN
        clear hS
        have HCL := Lib.hid (And.intro (And.intro hbl htl) (And.intro hbc (And.intro t0 (And.intro t1 (And.intro t2 t3)))))
        clear hbl htl hbc t0 t1 t2 t3
        have x0 : (0 : Int) ≤ (i : Int) := by omega
        have x1 : (i : Int) < (ℓ : Int) := by omega
        have x2 : (0 : Int) ≤ (m : Int) := by omega
        have x3 : (m : Int) < (r.n : Int) := by omega
        have hd14 : d ≤ 14 := by omega
        go_upto_region 7 with fail
        have hP0 : ∀ A B : World, AR gx #[.int .i64 r.nb, .int .i64 r.nm, .int .i64 r.most, .slice oS d cS] W A → Below A.heap.size A B → AR gx #[.int .i64 r.nb, .int .i64 r.nm, .int .i64 r.most, .slice oS d cS] W B := fun A B h1 h2 => h1.on h2
        have hP1 : ∀ A B : World, (∃ cs, AR gx cs W A) → Below A.heap.size A B → (∃ cs, AR gx cs W B) := fun _ _ h1 h2 => h1.imp fun _ h => h.on h2
        have hC0 := hP0 _ _ HAR.out (Below.refl wr.heap.size wr).drew
        have hown := owns_below HOW.out (Below.refl wr.heap.size wr).drew
        have HLW := Lib.hid (fun (A : World) (h : AR gx #[.int .i64 r.nb, .int .i64 r.nm, .int .i64 r.most, .slice oS d cS] W A) => h.low HL0.out HGX.out)
        refine wp_region_phase 13 (fun A => AR gx #[.int .i64 r.nb, .int .i64 r.nm, .int .i64 r.most, .slice oS d cS] W A) (fun A => ∃ cs, AR gx cs W A) (by kernel_rfl) ?_
        (refine wpAnyP_take0 (i := 0) hP0 hP1 hC0 (by decide) (by rfl) rfl (by kernel_rfl) rfl (by kernel_rfl) (by kernel_rfl) (by kernel_rfl) (fun _ _ _ _ h => h) (by rfl) ?_; apply Exists.intro; refine ⟨fun w1 h1 K hK => ?_, ?_⟩; · (have q4 : ∀ V : Aft w1, gx < V.val.heap.size := fun V => (hP0 _ _ h1 V.below).box.lt; go_big_quiet_op; first | exact hK | fail))
        (refine wpAnyP_take0 (i := 1) hP0 hP1 hC0 (by decide) (by rfl) rfl (by kernel_rfl) rfl (by kernel_rfl) (by kernel_rfl) (by kernel_rfl) (fun _ _ _ _ h => h) (by rfl) ?_; apply Exists.intro; refine ⟨fun w1 h1 K hK => ?_, ?_⟩; · (have q4 : ∀ V : Aft w1, V.val.cell? ⟨gx, 3, none⟩ = some (.slice oS d cS) := fun V => (hP0 _ _ h1 V.below).box.cell 3 rfl; go_big_quiet_op; first | exact hK | fail))
        (refine wpAnyP_take0 (i := 2) hP0 hP1 hC0 (by decide) (by rfl) rfl (by kernel_rfl) rfl (by kernel_rfl) (by kernel_rfl) (by kernel_rfl) (fun _ _ _ _ h => h) (by rfl) ?_; apply Exists.intro; refine ⟨fun w1 h1 K hK => ?_, ?_⟩; · (have q4 : ∀ V : Aft w1, gR < V.val.heap.size := fun V => (HR.out.below (HLW.out _ (hP0 _ _ h1 V.below))).lt; go_big_quiet_op; first | exact hK | fail))
        (refine wpAnyP_take0 (i := 3) hP0 hP1 hC0 (by decide) (by rfl) rfl (by kernel_rfl) rfl (by kernel_rfl) (by kernel_rfl) (by kernel_rfl) (fun _ _ _ _ h => h) (by rfl) ?_; apply Exists.intro; refine ⟨fun w1 h1 K hK => ?_, ?_⟩; · (have q4 : ∀ V : Aft w1, V.val.cell? ⟨gR, 3, none⟩ = some (.slice (some ⟨tb, tq, none⟩) r.n ca) := fun V => (HR.out.below (HLW.out _ (hP0 _ _ h1 V.below))).cell 3 rfl; go_big_quiet_op; first | exact hK | fail))
        (refine wpAnyP_take0 (i := 4) hP0 hP1 hC0 (by decide) (by rfl) rfl (by kernel_rfl) rfl (by kernel_rfl) (by kernel_rfl) (by kernel_rfl) (fun _ _ _ _ h => h) (by rfl) ?_; apply Exists.intro; refine ⟨fun w1 h1 K hK => ?_, ?_⟩; · ( go_big_quiet_op; first | exact hK | fail))
        (refine wpAnyP_take0 (i := 5) hP0 hP1 hC0 (by decide) (by rfl) rfl (by kernel_rfl) rfl (by kernel_rfl) (by kernel_rfl) (by kernel_rfl) (fun _ _ _ _ h => h) (by rfl) ?_; apply Exists.intro; refine ⟨fun w1 h1 K hK => ?_, ?_⟩; · ( go_big_quiet_op; first | exact hK | fail))
        (refine wpAnyP_take0 (i := 6) hP0 hP1 hC0 (by decide) (by rfl) rfl (by kernel_rfl) rfl (by kernel_rfl) (by kernel_rfl) (by kernel_rfl) (fun _ _ _ _ h => h) (by rfl) ?_; apply Exists.intro; refine ⟨fun w1 h1 K hK => ?_, ?_⟩; · (have q4 : ∀ V : Aft w1, bb < V.val.heap.size := fun V => Nat.lt_of_lt_of_le HCL.out.1.1 (HLW.out _ (hP0 _ _ h1 V.below)).size; go_big_quiet_op; first | exact hK | fail))
        (refine wpAnyP_take0 (i := 7) hP0 hP1 hC0 (by decide) (by rfl) rfl (by kernel_rfl) rfl (by kernel_rfl) (by kernel_rfl) (by kernel_rfl) (fun _ _ _ _ h => h) (by rfl) ?_; apply Exists.intro; refine ⟨fun w1 h1 K hK => ?_, ?_⟩; · (have q4 : ∀ V : Aft w1, V.val.cell? ⟨bb, bo + i, none⟩ = some (.int .i64 (m : Nat)) := fun V => ((HLW.out _ (hP0 _ _ h1 V.below)).cell (p := ⟨bb, bo + i, none⟩) HCL.out.1.1).trans HCL.out.2.1; go_big_quiet_op; first | exact hK | fail))
        (refine wpAnyP_take0 (i := 8) hP0 hP1 hC0 (by decide) (by rfl) rfl (by kernel_rfl) rfl (by kernel_rfl) (by kernel_rfl) (by kernel_rfl) (fun _ _ _ _ h => h) (by rfl) ?_; apply Exists.intro; refine ⟨fun w1 h1 K hK => ?_, ?_⟩; · (have q4 : ∀ V : Aft w1, tb < V.val.heap.size := fun V => Nat.lt_of_lt_of_le HCL.out.1.2 (HLW.out _ (hP0 _ _ h1 V.below)).size; go_big_quiet_op; first | exact hK | fail))
        have hCC := hP0
        (refine wpAnyP_take0 (i := 9) hP0 hP1 hC0 (by decide) (by rfl) rfl (by kernel_rfl) rfl (by kernel_rfl) (by kernel_rfl) (by kernel_rfl) (fun _ _ _ _ h => h) (by rfl) ?_; apply Exists.intro; refine ⟨fun w1 h1 K hK => ?_, ?_⟩; · (have q0 : ∀ V : Aft w1, V.val.cell? ⟨tb, tq + m * 4, none⟩ = some (.int .i64 S.b) := fun V => ((HLW.out _ (hCC _ _ h1 V.below)).cell (p := ⟨tb, tq + m * 4, none⟩) HCL.out.1.2).trans HCL.out.2.2.1; have q1 : ∀ V : Aft w1, V.val.cell? ⟨tb, tq + m * 4 + 1, none⟩ = some (.int .i64 S.m) := fun V => ((HLW.out _ (hCC _ _ h1 V.below)).cell (p := ⟨tb, tq + m * 4 + 1, none⟩) HCL.out.1.2).trans HCL.out.2.2.2.1; have q2 : ∀ V : Aft w1, V.val.cell? ⟨tb, tq + m * 4 + 1 + 1, none⟩ = some (.int .i64 S.lo) := fun V => ((HLW.out _ (hCC _ _ h1 V.below)).cell (p := ⟨tb, tq + m * 4 + 1 + 1, none⟩) HCL.out.1.2).trans HCL.out.2.2.2.2.1; have q3 : ∀ V : Aft w1, V.val.cell? ⟨tb, tq + m * 4 + 1 + 1 + 1, none⟩ = some (.int .i64 S.hi) := fun V => ((HLW.out _ (hCC _ _ h1 V.below)).cell (p := ⟨tb, tq + m * 4 + 1 + 1 + 1, none⟩) HCL.out.1.2).trans HCL.out.2.2.2.2.2; have q4 : ∀ V : Aft w1, tb < V.val.heap.size := fun V => Nat.lt_of_lt_of_le HCL.out.1.2 (HLW.out _ (hCC _ _ h1 V.below)).size; go_big_quiet_op; first | exact hK | fail))
        (refine wpAnyP_one (i := 10) (by kernel_rfl) rfl (by rfl) (fun wa hwa K hK => ?_))
        go_simp
        have hA0 := (hC0.on hwa).on (below_alloc1 wa (.cells #[.int .i64 S.b, .int .i64 S.m, .int .i64 S.lo, .int .i64 S.hi] 48))
        refine hK _ _ hA0 ?_
        clear hK K
        have zN := Box.new (g := wa.heap.size) #[.int .i64 S.b, .int .i64 S.m, .int .i64 S.lo, .int .i64 S.hi] 48 wa rfl
        have hown2 := owns_below (owns_below hown hwa) (below_alloc1 wa (.cells #[.int .i64 S.b, .int .i64 S.m, .int .i64 S.lo, .int .i64 S.hi] 48))
        clear hown hwa hC0
        obtain ⟨gN, hG⟩ : ∃ G, G = wa.heap.size := ⟨_, rfl⟩
        obtain ⟨wA, hWA⟩ : ∃ X, X = wa.alloc (.cells #[.int .i64 S.b, .int .i64 S.m, .int .i64 S.lo, .int .i64 S.hi] 48) := ⟨_, rfl⟩
        rw [← hWA] at zN hA0 hown2 ⊢
        rw [← hG] at zN ⊢
        clear hG hWA
        (refine wpAnyP_one (i := 11) (by kernel_rfl) rfl (by rfl) (fun wb hwb K hK => ?_))
        have hC1 := hA0.on hwb
        have hown1 := owns_below hown2 hwb
        have zN1 := zN.below hwb
        refine wp_append_gen (.tmp 23) (.tmp 32) 22 rfl W.heap.size 48 iR _ 4 32 Tryd.underlying22 hiR hzR0 hzR1 hzR2 rfl (by omega) (.slice oS d cS) d xs rfl hown1 (some ⟨gN, 0, none⟩) 1 1 [.int .i64 S.b, .int .i64 S.m, .int .i64 S.lo, .int .i64 S.hi] rfl (fun e9 => by cases e9) rfl (fun ad9 e9 j9 u9 hu9 => by cases e9; rw [add_flat, Nat.zero_add]; exact zN1.cell j9 (by rw [List.getElem?_toArray]; exact hu9)) (by simp [Value.oneCell']) (by simp only [maxLen]; omega) (by omega) hC1.same.size (fun vT wS hownS hgrowS => ?_)
        have hA1 := hC1.grown hown1 (Nat.le_refl _) hgrowS
        rw [HN.out, ← HDN.out] at hownS
        clear hown1 hgrowS hC1 hown2 hwb hA0 zN1 zN
        obtain ⟨oT, cT, rfl, -⟩ := owns_form hownS
        go_simp
        refine hK _ _ hA1 ?_
        clear hK K
        (refine wpAnyP_one (i := 12) (by kernel_rfl) rfl (by rfl) (fun wc hwc K hK => ?_))
        have hgx9 := (hA1.on hwc).box.lt
        go_simp
        refine hK _ _ (hA1.on hwc) ?_
        clear hK K
        (refine wpAnyP_one (i := 13) (by kernel_rfl) rfl (by rfl) (fun wd hwd K hK => ?_))
        have hA2 := (hA1.on hwc).on hwd
        have hownT := owns_below (owns_below hownS hwc) hwd
        refine wp_store_slice hA2.box rfl rfl rfl (by simp) (by kernel_rfl) (fun we ze ho => ?_)
        dsimp only [Act.put]
        have hownU := owns_but hownT ho.but (own_ne hownT hA2.box (by decide))
        have hA3 : AR gx #[.int .i64 r.nb, .int .i64 r.nm, .int .i64 r.most, .slice oT (dropK L but (i + 1)).length cT] W we := hA2.only ho ze
        refine hK _ _ ⟨_, hA3⟩ ?_
        clear hK K
        refine wpAnyP_done (by kernel_rfl) (fun wz hwz => ?_) _
        have HAZ := Lib.hid (hA3.on hwz)
        have HOZ := Lib.hid (owns_below hownU hwz)
        clear hA1 hA2 hA3 hwc hwd hwz hownS hownT hownU ze ho hP0 hP1 hCC HLW HOW HAR HCL HN HDN hgx9
        go_wp2_with fail
        go_roundw
        case rel => exact ⟨i + 1, _, by omega, by go_num, HOZ, HAZ⟩
        case measure => simp [intOf]; omega
    · obtain rfl : i = ℓ := by omega
      have hd1 : decide ((i : Int) < (i : Int)) = false := by simp
      have HLW := Lib.hid (HAR.out.low HL0.out HGX.out)
      have HBX := Lib.hid HAR.out.box
      have hdl := HDL.out i
      obtain ⟨oT, cT, e7, hTR⟩ := owns_trps (show wr.ownsRow W.heap.size 48 4 (.slice oS (dropK L but i).length cS) (dropK L but i).length (trpNews (dropK L but i).length (fun k => r.t ((dropK L but i).getD k 0))) from HOW.out)
      cases e7
      obtain ⟨M, hM⟩ : ∃ M, M = dropK L but i := ⟨_, rfl⟩
      rw [← hM] at HVS HES hTR hdl HBX
      have HM := Lib.hid hM.symm
      clear HOW HAR hM
      have HTR := Lib.hid hTR
      have HF := Lib.hid (show Calls Tryd.prog 12 #[.agg #[.int .i64 r.nb, .int .i64 r.nm, .int .i64 r.most, .slice oS M.length cS], .int .i64 off] wr fun e w' => e = .returned (.tuple #[.bool (!badL r off M), .int .i64 0]) ∧ Below wr.heap.size wr w' from by
        have h9 := fits_any (r.sub M.length (fun k => r.t (M.getD k 0))) oS cS off wr (by show M.length ≤ _; omega) (tab_below HT.out h1 HLW.out) (Nat.lt_of_lt_of_le h1 HLW.out.size) HTR.out
        have e1 : (r.sub M.length (fun k => r.t (M.getD k 0))).fitsB off = !badL r off M := by
          unfold Rnd.fitsB badL
          rw [decide_eq_true HES.out, Bool.true_and, Bool.not_not]
          rfl
        rw [e1, HES.out] at h9
        exact h9)
      clear hTR HTR HVS HES
      obtain ⟨q, hq⟩ : ∃ q, q = !badL r off M := ⟨_, rfl⟩
      rw [← hq] at HF
      have HQ := Lib.hid hq.symm
      clear hq
      have b0 := HBX.out.cell 0 (v := .int .i64 r.nb) rfl
      have b1 := HBX.out.cell 1 (v := .int .i64 r.nm) rfl
      have b2 := HBX.out.cell 2 (v := .int .i64 r.most) rfl
      have b3 := HBX.out.cell 3 rfl
      have b4 := HBX.out.lt
      have o0 := (HO.out.below HLW.out).cell 0 (v := .int .i64 off) rfl
      have o1 := (HO.out.below HLW.out).lt
      obtain ⟨ml, hml⟩ : ∃ x, x = M.length := ⟨_, rfl⟩
      rw [← hml] at HF HBX b3
      clear hml hdl
      go_wp2_with fail
      refine HF.out.mono ?_
      rintro e w2 ⟨rfl, hb2⟩
      have HP := Lib.hid (HLW.out.trans (hb2.mono HLW.out.size))
      clear hb2 b0 b1 b2 b3 b4 o0 o1 HF HBX
      cases q
      · go_wp2_with fail
        go_ret
        exact ⟨by rw [HM.out, HQ.out]; rfl, HP.out⟩
      · go_wp2_with fail
        go_ret
        exact ⟨by rw [HM.out, HQ.out]; rfl, HP.out⟩
end Go.Proofs.YtldodmfmibeoiaaDoor
