/- Travel: the document's start, fits and Fits. -/
import Derived.Test.YtldodmfmibeoiaaDoorP11
import Derived.Deep.OwnRows
namespace Go.Proofs.YtldodmfmibeoiaaDoor
open Go.RowKit
theorem wp_make1 {op : Oper} {a : Act} {w : World} {K : Act → World → Prop} {Q : Exit → Act → World → Prop} {l : Operand} {n : Nat} (ho : op.op = .makeSlice 37 l l) (hl : a.eval l = .int .i64 (n : Nat)) (hn : n ≤ 1000000)
    (h : K (a.put op.dst (.slice (some ⟨w.heap.size, 0, none⟩) n n)) (w.alloc (.cells (madeCells #[.int .i64 0] n) 3))) : op.wp Tryd.prog a w K Q := by
  obtain ⟨iR, hiR, hzR0, hzR1, hzR2⟩ := info_parts (P := Tryd.prog) (e := 3) (z := .int .i64 0) (size := 1) (bytes := 8) (by kernel_rfl)
  have hr := run_make_row (P := Tryd.prog) 37 3 iR _ Tryd.underlying37 hiR hzR0 hzR1 rfl .i64 .i64 n (by rw [hzR2]; omega) (by omega) w
  unfold Oper.wp
  simp only [execOp, ho, hl, hr, Sem.run_bind, Sem.run_pure, Result.andThen_ok]
  exact h
theorem made_nums (n : Nat) : Nums (madeCells #[.int .i64 0] n) n (fun _ => 0) := fun i hi => by simp [madeCells, hi, Nat.mod_one]
theorem ints_made (w : World) (n : Nat) : IntsAt (w.alloc (.cells (madeCells #[.int .i64 0] n) 3)) (some ⟨w.heap.size, 0, none⟩) n (fun _ => 0) :=
  (made_nums n).at (Box.new (g := w.heap.size) _ 3 w rfl)
theorem zeros_bnd : BndR 0 (fun _ => 0) := fun i => .inr ⟨by simp, by simp⟩
set_option maxRecDepth 100000 in
set_option maxHeartbeats 8000000 in
theorem start_any (r : Rnd) (oa : Option Addr) (ca : Nat) (off : Int) (w : World) (hn : r.n ≤ 1000000) (hA : TrpsAt w oa r.n r.t) :
    Calls Tryd.prog 35 #[r.val oa ca, .int .i64 off] w fun e w' => e = .returned (.int .i64 (r.err off)) ∧ Below w.heap.size w w' := by
  have HA := Lib.hid hA
  clear hA
  go_enter Tryd.func35, Tryd.ntmps35
  go_wp2_with fail
  have hb0 := below_alloc1 w (.cells #[.int .i64 r.nb, .int .i64 r.nm, .int .i64 r.most, .slice oa r.n ca] 24)
  have hB := Box.new (g := w.heap.size) #[.int .i64 r.nb, .int .i64 r.nm, .int .i64 r.most, .slice oa r.n ca] 24 w rfl
  obtain ⟨W, hW⟩ : ∃ X, X = w.alloc (.cells #[.int .i64 r.nb, .int .i64 r.nm, .int .i64 r.most, .slice oa r.n ca] 24) := ⟨_, rfl⟩
  rw [← hW] at hb0 hB ⊢
  clear hW
  obtain ⟨gr, hgr⟩ : ∃ G, G = w.heap.size := ⟨_, rfl⟩
  rw [← hgr] at hB ⊢
  clear hgr
  refine (round_any r oa ca _ hn (HA.out.mono hb0)).mono ?_
  rintro e w1 ⟨rfl, hb1⟩
  have HB := Lib.hid (hB.below hb1)
  have HL := Lib.hid (hb0.trans (hb1.mono hb0.size))
  have HE := Lib.hid (show r.err off = if r.valid = false then 1 else if withinB off (-1) (r.nb - 1) = false then 2 else 0 from rfl)
  clear hB hb1 hb0
  cases hv : r.valid
  case false =>
    have HX := Lib.hid (show r.err off = 1 by rw [HE.out, hv]; rfl)
    clear hv
    go_wp2_with fail
    go_ret
    exact ⟨by rw [HX.out]; rfl, HL.out⟩
  have hh := Rnd.valid_head hv
  have b0 := HB.out.cell 0 (v := .int .i64 r.nb) rfl
  have b4 := HB.out.lt
  have x1 := hh.1.1
  have x2 := hh.1.2
  clear hh
  have HV := Lib.hid hv
  clear hv
  go_wp2_with fail
  refine (in_any _ _ _ _).mono ?_
  rintro e w2 ⟨rfl, rfl⟩
  cases h2 : withinB off (-1) (r.nb - 1)
  · have HX := Lib.hid (show r.err off = 2 by rw [HE.out, HV.out, h2]; rfl)
    clear h2
    go_wp2_with fail
    go_ret
    exact ⟨by rw [HX.out]; rfl, HL.out⟩
  · have HX := Lib.hid (show r.err off = 0 by rw [HE.out, HV.out, h2]; rfl)
    clear h2
    go_wp2_with fail
    go_ret
    exact ⟨by rw [HX.out]; rfl, HL.out⟩
/-- the document's fits, of any trips -/
def FitsW (r : Rnd) (off : Int) (ln : Nat) (l : Nat → Trp) : Bool := okT ((r.sub ln l).D off)
theorem nar_fits {r : Rnd} {off : Int} {ln : Nat} {l : Nat → Trp} (hv : (r.sub ln l).valid = true) {w w' : World} {e : Ending} (h : NarPost (r.rulesR off ln l).2 (r.rulesR off ln l).1 (1 + r.nb.toNat + r.nm.toNat) (fun _ => 0) w e w') : Below w.heap.size w w' ∧ ∃ oo m co, e = .returned (.tuple #[.slice oo m co, .bool (FitsW r off ln l)]) := by
  refine ⟨h.1, ?_⟩
  have h0 := Rnd.fits_doc hv off
  change (∃ q, q ≤ 1 + r.nb.toNat + r.nm.toNat ∧ stillR (r.rulesR off ln l).2 (itR (r.rulesR off ln l).2 (r.rulesR off ln l).1 (fun _ => 0) q) (r.rulesR off ln l).1 = true) ↔ FitsW r off ln l = true at h0
  rcases h.2 with ⟨q, hq, hs, oo, co, rfl, -⟩ | ⟨hs, rfl⟩
  · exact ⟨oo, _, co, by rw [h0.1 ⟨q, hq, hs⟩]⟩
  · refine ⟨none, 0, 0, ?_⟩
    have h9 : FitsW r off ln l = false := by
      rw [Bool.eq_false_iff]
      intro h8
      obtain ⟨q, hq, h7⟩ := h0.2 h8
      rw [hs q hq] at h7
      cases h7
    rw [h9]
set_option maxRecDepth 100000 in
set_option maxHeartbeats 8000000 in
theorem fitsW_any (r : Rnd) (oa : Option Addr) (ca : Nat) (off : Int) (la : Option Addr) (ln lc : Nat) (l : Nat → Trp) (w : World) (hv : (r.sub ln l).valid = true) (hL : TrpsAt w la ln l) :
    Calls Tryd.prog 36 #[r.val oa ca, .int .i64 off, .slice la ln lc] w fun e w' => e = .returned (.bool (FitsW r off ln l)) ∧ Below w.heap.size w w' := by
  have HA := Lib.hid hL
  have HV := Lib.hid hv
  clear hL
  have hh : (1 ≤ r.nb ∧ r.nb ≤ 6) ∧ (1 ≤ r.nm ∧ r.nm ≤ 6) ∧ (0 ≤ r.most ∧ r.most ≤ 100000) ∧ ln ≤ 14 := Rnd.valid_head hv
  have hnl := r.rulesR_le off ln l (by omega)
  have HR := Lib.hid (fun (W : World) (h : Below w.heap.size w W) => rules_any r oa ca off la ln lc l W (by omega) (by omega) (by omega) (fun k hk => Rnd.valid_ok hv k hk) (HA.out.mono h))
  have HN := Lib.hid (fun (W : World) ol cl om cm (h : RulsAt W ol (r.rulesR off ln l).1 (r.rulesR off ln l).2) (hM : IntsAt W om (1 + r.nb.toNat + r.nm.toNat) (fun _ => 0)) => (narrow_any ol (r.rulesR off ln l).1 cl (r.rulesR off ln l).2 om (1 + r.nb.toNat + r.nm.toNat) cm (fun _ => 0) W (by omega) (by omega) (by omega) h hM (Rnd.rules_fine hv off) zeros_bnd).mono (fun e w' h9 => nar_fits hv h9))
  obtain ⟨RR, hRR⟩ : ∃ x, x = r.rulesR off ln l := ⟨_, rfl⟩
  rw [← hRR] at HR HN hnl
  clear hRR hv
  obtain ⟨nb0, nm0, most, n, t⟩ := r
  simp only at hh HN
  obtain ⟨nb, rfl⟩ : ∃ nb : Nat, nb0 = nb := ⟨nb0.toNat, by omega⟩
  obtain ⟨nm, rfl⟩ : ∃ nb : Nat, nm0 = nb := ⟨nm0.toNat, by omega⟩
  simp only [Int.toNat_natCast] at HN
  have h1 : nb ≤ 6 := by omega
  have h2 : nm ≤ 6 := by omega
  clear hh
  obtain ⟨q, hq⟩ : ∃ q, q = FitsW ⟨nb, nm, most, n, t⟩ off ln l := ⟨_, rfl⟩
  rw [← hq] at HN ⊢
  clear hq
  go_enter Tryd.func36, Tryd.ntmps36
  go_upto_region 1 with fail
  have hb0 := below_alloc1 w (.cells #[.int .i64 nb, .int .i64 nm, .int .i64 most, .slice oa n ca] 24)
  have hB := Box.new (g := w.heap.size) #[.int .i64 nb, .int .i64 nm, .int .i64 most, .slice oa n ca] 24 w rfl
  obtain ⟨W, hW⟩ : ∃ X, X = w.alloc (.cells #[.int .i64 nb, .int .i64 nm, .int .i64 most, .slice oa n ca] 24) := ⟨_, rfl⟩
  rw [← hW] at hb0 hB ⊢
  clear hW
  obtain ⟨gr, hgr⟩ : ∃ G, G = w.heap.size := ⟨_, rfl⟩
  rw [← hgr] at hB ⊢
  clear hgr
  have HB := Lib.hid hB
  have HL := Lib.hid hb0
  clear hB hb0
  have hCC : ∀ A B : World, Below W.heap.size W A → Below A.heap.size A B → Below W.heap.size W B := fun A B h1 h2 => h1.trans (h2.mono h1.size)
  have hC0 : Below W.heap.size W W.drew := (Below.refl _ _).drew
  refine wp_region_garb (fun A => Below W.heap.size W A) (by kernel_rfl) ?_
  (refine wpAnyG_take (i := 0) hCC hC0 rfl (by kernel_rfl) (by kernel_rfl) (by kernel_rfl) (fun _ _ _ _ h => h) (by rfl) ?_; apply Exists.intro; refine ⟨fun w1 h1 K hK => ?_, ?_⟩; · (have q0 : ∀ V : Aft w1, V.val.cell? ⟨gr, 0, none⟩ = some (.int .i64 nb) := fun V => (HB.out.below (hCC _ _ h1 V.below)).cell 0 rfl; have q1 : ∀ V : Aft w1, V.val.cell? ⟨gr, 1, none⟩ = some (.int .i64 nm) := fun V => (HB.out.below (hCC _ _ h1 V.below)).cell 1 rfl; have q2 : ∀ V : Aft w1, V.val.cell? ⟨gr, 2, none⟩ = some (.int .i64 most) := fun V => (HB.out.below (hCC _ _ h1 V.below)).cell 2 rfl; have q3 : ∀ V : Aft w1, V.val.cell? ⟨gr, 3, none⟩ = some (.slice oa n ca) := fun V => (HB.out.below (hCC _ _ h1 V.below)).cell 3 rfl; have q4 : ∀ V : Aft w1, gr < V.val.heap.size := fun V => (HB.out.below (hCC _ _ h1 V.below)).lt; go_big_quiet_op; first | exact hK | fail))
  (refine wpAnyG_take (i := 1) hCC hC0 rfl (by kernel_rfl) (by kernel_rfl) (by kernel_rfl) (fun _ _ _ _ h => h) (by rfl) ?_; apply Exists.intro; refine ⟨fun w1 h1 K hK => ?_, ?_⟩; · ( go_big_quiet_op; first | exact hK | fail))
  (refine wpAnyG_take (i := 2) hCC hC0 rfl (by kernel_rfl) (by kernel_rfl) (by kernel_rfl) (fun _ _ _ _ h => h) (by rfl) ?_; apply Exists.intro; refine ⟨fun w1 h1 K hK => ?_, ?_⟩; · ( go_big_quiet_op; first | exact hK | fail))
  (refine wpAnyG_take (i := 4) hCC hC0 rfl (by kernel_rfl) (by kernel_rfl) (by kernel_rfl) (fun _ _ _ _ h => h) (by rfl) ?_; apply Exists.intro; refine ⟨fun w1 h1 K hK => ?_, ?_⟩; · (have q0 : ∀ V : Aft w1, V.val.cell? ⟨gr, 0, none⟩ = some (.int .i64 nb) := fun V => (HB.out.below (hCC _ _ h1 V.below)).cell 0 rfl; have q1 : ∀ V : Aft w1, V.val.cell? ⟨gr, 1, none⟩ = some (.int .i64 nm) := fun V => (HB.out.below (hCC _ _ h1 V.below)).cell 1 rfl; have q2 : ∀ V : Aft w1, V.val.cell? ⟨gr, 2, none⟩ = some (.int .i64 most) := fun V => (HB.out.below (hCC _ _ h1 V.below)).cell 2 rfl; have q3 : ∀ V : Aft w1, V.val.cell? ⟨gr, 3, none⟩ = some (.slice oa n ca) := fun V => (HB.out.below (hCC _ _ h1 V.below)).cell 3 rfl; have q4 : ∀ V : Aft w1, gr < V.val.heap.size := fun V => (HB.out.below (hCC _ _ h1 V.below)).lt; go_big_quiet_op; first | exact hK | fail))
  (refine wpAnyG_take (i := 5) hCC hC0 rfl (by kernel_rfl) (by kernel_rfl) (by kernel_rfl) (fun _ _ _ _ h => h) (by rfl) ?_; apply Exists.intro; refine ⟨fun w1 h1 K hK => ?_, ?_⟩; · (have q0 : ∀ V : Aft w1, V.val.cell? ⟨gr, 0, none⟩ = some (.int .i64 nb) := fun V => (HB.out.below (hCC _ _ h1 V.below)).cell 0 rfl; have q1 : ∀ V : Aft w1, V.val.cell? ⟨gr, 1, none⟩ = some (.int .i64 nm) := fun V => (HB.out.below (hCC _ _ h1 V.below)).cell 1 rfl; have q2 : ∀ V : Aft w1, V.val.cell? ⟨gr, 2, none⟩ = some (.int .i64 most) := fun V => (HB.out.below (hCC _ _ h1 V.below)).cell 2 rfl; have q3 : ∀ V : Aft w1, V.val.cell? ⟨gr, 3, none⟩ = some (.slice oa n ca) := fun V => (HB.out.below (hCC _ _ h1 V.below)).cell 3 rfl; have q4 : ∀ V : Aft w1, gr < V.val.heap.size := fun V => (HB.out.below (hCC _ _ h1 V.below)).lt; go_big_quiet_op; first | exact hK | fail))
  (refine wpAnyG_take (i := 6) hCC hC0 rfl (by kernel_rfl) (by kernel_rfl) (by kernel_rfl) (fun _ _ _ _ h => h) (by rfl) ?_; apply Exists.intro; refine ⟨fun w1 h1 K hK => ?_, ?_⟩; · ( go_big_quiet_op; first | exact hK | fail))
  (refine wpAnyG_take (i := 7) hCC hC0 rfl (by kernel_rfl) (by kernel_rfl) (by kernel_rfl) (fun _ _ _ _ h => h) (by rfl) ?_; apply Exists.intro; refine ⟨fun w1 h1 K hK => ?_, ?_⟩; · (have q0 : ∀ V : Aft w1, V.val.cell? ⟨gr, 0, none⟩ = some (.int .i64 nb) := fun V => (HB.out.below (hCC _ _ h1 V.below)).cell 0 rfl; have q1 : ∀ V : Aft w1, V.val.cell? ⟨gr, 1, none⟩ = some (.int .i64 nm) := fun V => (HB.out.below (hCC _ _ h1 V.below)).cell 1 rfl; have q2 : ∀ V : Aft w1, V.val.cell? ⟨gr, 2, none⟩ = some (.int .i64 most) := fun V => (HB.out.below (hCC _ _ h1 V.below)).cell 2 rfl; have q3 : ∀ V : Aft w1, V.val.cell? ⟨gr, 3, none⟩ = some (.slice oa n ca) := fun V => (HB.out.below (hCC _ _ h1 V.below)).cell 3 rfl; have q4 : ∀ V : Aft w1, gr < V.val.heap.size := fun V => (HB.out.below (hCC _ _ h1 V.below)).lt; go_big_quiet_op; first | exact hK | fail))
  (refine wpAnyG_take (i := 8) hCC hC0 rfl (by kernel_rfl) (by kernel_rfl) (by kernel_rfl) (fun _ _ _ _ h => h) (by rfl) ?_; apply Exists.intro; refine ⟨fun w1 h1 K hK => ?_, ?_⟩; · (have q0 : ∀ V : Aft w1, V.val.cell? ⟨gr, 0, none⟩ = some (.int .i64 nb) := fun V => (HB.out.below (hCC _ _ h1 V.below)).cell 0 rfl; have q1 : ∀ V : Aft w1, V.val.cell? ⟨gr, 1, none⟩ = some (.int .i64 nm) := fun V => (HB.out.below (hCC _ _ h1 V.below)).cell 1 rfl; have q2 : ∀ V : Aft w1, V.val.cell? ⟨gr, 2, none⟩ = some (.int .i64 most) := fun V => (HB.out.below (hCC _ _ h1 V.below)).cell 2 rfl; have q3 : ∀ V : Aft w1, V.val.cell? ⟨gr, 3, none⟩ = some (.slice oa n ca) := fun V => (HB.out.below (hCC _ _ h1 V.below)).cell 3 rfl; have q4 : ∀ V : Aft w1, gr < V.val.heap.size := fun V => (HB.out.below (hCC _ _ h1 V.below)).lt; go_big_quiet_op; first | exact hK | fail))
  (refine wpAnyG_take (i := 9) hCC hC0 rfl (by kernel_rfl) (by kernel_rfl) (by kernel_rfl) (fun _ _ _ _ h => h) (by rfl) ?_; apply Exists.intro; refine ⟨fun w1 h1 K hK => ?_, ?_⟩; · ( go_big_quiet_op; first | exact hK | fail))
  (refine wpAnyG_two (i := 3) (k := 10) (by kernel_rfl) rfl rfl (by rfl) (by rfl) (fun wa hwa K hK => ?_) (fun wa hwa K hK => ?_))
  · go_simp
    have hCa := hCC _ _ hC0 hwa
    refine (HR.out wa (HL.out.trans (hCa.mono HL.out.size))).mono ?_
    rintro e wb ⟨hb, v, rfl, hown⟩
    obtain ⟨oR, cR, rfl, hRul, -⟩ := owns_ruls hown
    have hC1 := hCC _ _ hCa hb
    refine hK _ _ hC1 ?_
    clear hK K hCa hC0 hown hb hwa
    (refine wpAnyG_one (i := 10) (by kernel_rfl) rfl (by rfl) (fun wc hwc K hK => ?_))
    refine wp_make1 (n := 1 + nb + nm) rfl rfl (by omega) ?_
    go_simp
    have hC2 := (hCC _ _ hC1 hwc).alloc (by have := hC1.size; have := hwc.size; omega) (.cells (madeCells #[.int .i64 0] (1 + nb + nm)) 3)
    have hI := ints_made wc (1 + nb + nm)
    have hRul2 := (hRul.mono hwc).mono (below_alloc1 wc (.cells (madeCells #[.int .i64 0] (1 + nb + nm)) 3))
    refine hK _ _ hC2 ?_
    clear hK K hC1 hRul hwc
    obtain ⟨g9, hG⟩ : ∃ G, G = wc.heap.size := ⟨_, rfl⟩
    obtain ⟨wd, hWA⟩ : ∃ X, X = wc.alloc (.cells (madeCells #[.int .i64 0] (1 + nb + nm)) 3) := ⟨_, rfl⟩
    rw [← hWA] at hI hC2 hRul2 ⊢
    rw [← hG] at hI ⊢
    clear hG hWA
    (refine wpAnyG_one (i := 11) (by kernel_rfl) rfl (by rfl) (fun we hwe K hK => ?_))
    go_simp
    refine (HN.out we _ _ _ _ (hRul2.mono hwe) (hI.mono hwe)).mono ?_
    rintro e wf ⟨hb, oo, mm, co, rfl⟩
    have hC3 := hCC _ _ (hCC _ _ hC2 hwe) hb
    refine hK _ _ hC3 ?_
    clear hK K hC2 hRul2 hI hb hwe
    have hC0 := hC3
    (refine wpAnyG_take (i := 12) hCC hC0 rfl (by kernel_rfl) (by kernel_rfl) (by kernel_rfl) (fun _ _ _ _ h => h) (by rfl) ?_; apply Exists.intro; refine ⟨fun w1 h1 K hK => ?_, ?_⟩; · ( go_big_quiet_op; first | exact hK | fail))
    (refine wpAnyG_take (i := 13) hCC hC0 rfl (by kernel_rfl) (by kernel_rfl) (by kernel_rfl) (fun _ _ _ _ h => h) (by rfl) ?_; apply Exists.intro; refine ⟨fun w1 h1 K hK => ?_, ?_⟩; · ( go_big_quiet_op; first | exact hK | fail))
    (refine wpAnyG_take (i := 14) hCC hC0 rfl (by kernel_rfl) (by kernel_rfl) (by kernel_rfl) (fun _ _ _ _ h => h) (by rfl) ?_; apply Exists.intro; refine ⟨fun w1 h1 K hK => ?_, ?_⟩; · ( go_big_quiet_op; first | exact hK | fail))
    (refine wpAnyG_one (i := 15) (by kernel_rfl) rfl (by rfl) (fun wg hwg K hK => ?_))
    go_simp
    have hC4 := hCC _ _ hC0 hwg
    refine hK _ _ hC4 ?_
    clear hK K
    (refine wpAnyG_one (i := 16) (by kernel_rfl) rfl (by rfl) (fun wh hwh K hK => ?_))
    go_simp
    have hC5 := hCC _ _ hC4 hwh
    refine hK _ _ hC5 ?_
    clear hK K
    refine wpAnyG_done (by kernel_rfl) (fun wz hwz => ?_) _
    have HF := Lib.hid (HL.out.trans ((hCC _ _ hC5 hwz).mono HL.out.size))
    clear hC0 hC3 hC4 hC5 hwg hwh hwz
    go_wp2_with fail
    go_ret
    exact ⟨rfl, HF.out⟩
  · have hCa := hCC _ _ hC0 hwa
    refine wp_make1 (n := 1 + nb + nm) rfl rfl (by omega) ?_
    go_simp
    have hC2 := hCa.alloc (by have := hCa.size; omega) (.cells (madeCells #[.int .i64 0] (1 + nb + nm)) 3)
    have hI := ints_made wa (1 + nb + nm)
    refine hK _ _ hC2 ?_
    clear hK K hCa hwa hC0
    obtain ⟨g9, hG⟩ : ∃ G, G = wa.heap.size := ⟨_, rfl⟩
    obtain ⟨wd, hWA⟩ : ∃ X, X = wa.alloc (.cells (madeCells #[.int .i64 0] (1 + nb + nm)) 3) := ⟨_, rfl⟩
    rw [← hWA] at hI hC2 ⊢
    rw [← hG] at hI ⊢
    clear hG hWA
    (refine wpAnyG_one (i := 3) (by kernel_rfl) rfl (by rfl) (fun wb hwb K hK => ?_))
    go_simp
    have hC3 := hCC _ _ hC2 hwb
    refine (HR.out wb (HL.out.trans (hC3.mono HL.out.size))).mono ?_
    rintro e wc ⟨hb, v, rfl, hown⟩
    obtain ⟨oR, cR, rfl, hRul2, -⟩ := owns_ruls hown
    replace hI := (hI.mono hwb).mono hb
    replace hC2 := hCC _ _ hC3 hb
    refine hK _ _ hC2 ?_
    clear hK K hC3 hown hb hwb
    (refine wpAnyG_one (i := 11) (by kernel_rfl) rfl (by rfl) (fun we hwe K hK => ?_))
    go_simp
    refine (HN.out we _ _ _ _ (hRul2.mono hwe) (hI.mono hwe)).mono ?_
    rintro e wf ⟨hb, oo, mm, co, rfl⟩
    have hC3 := hCC _ _ (hCC _ _ hC2 hwe) hb
    refine hK _ _ hC3 ?_
    clear hK K hC2 hRul2 hI hb hwe
    have hC0 := hC3
    (refine wpAnyG_take (i := 12) hCC hC0 rfl (by kernel_rfl) (by kernel_rfl) (by kernel_rfl) (fun _ _ _ _ h => h) (by rfl) ?_; apply Exists.intro; refine ⟨fun w1 h1 K hK => ?_, ?_⟩; · ( go_big_quiet_op; first | exact hK | fail))
    (refine wpAnyG_take (i := 13) hCC hC0 rfl (by kernel_rfl) (by kernel_rfl) (by kernel_rfl) (fun _ _ _ _ h => h) (by rfl) ?_; apply Exists.intro; refine ⟨fun w1 h1 K hK => ?_, ?_⟩; · ( go_big_quiet_op; first | exact hK | fail))
    (refine wpAnyG_take (i := 14) hCC hC0 rfl (by kernel_rfl) (by kernel_rfl) (by kernel_rfl) (fun _ _ _ _ h => h) (by rfl) ?_; apply Exists.intro; refine ⟨fun w1 h1 K hK => ?_, ?_⟩; · ( go_big_quiet_op; first | exact hK | fail))
    (refine wpAnyG_one (i := 15) (by kernel_rfl) rfl (by rfl) (fun wg hwg K hK => ?_))
    go_simp
    have hC4 := hCC _ _ hC0 hwg
    refine hK _ _ hC4 ?_
    clear hK K
    (refine wpAnyG_one (i := 16) (by kernel_rfl) rfl (by rfl) (fun wh hwh K hK => ?_))
    go_simp
    have hC5 := hCC _ _ hC4 hwh
    refine hK _ _ hC5 ?_
    clear hK K
    refine wpAnyG_done (by kernel_rfl) (fun wz hwz => ?_) _
    have HF := Lib.hid (HL.out.trans ((hCC _ _ hC5 hwz).mono HL.out.size))
    clear hC0 hC3 hC4 hC5 hwg hwh hwz
    go_wp2_with fail
    go_ret
    exact ⟨rfl, HF.out⟩
end Go.Proofs.YtldodmfmibeoiaaDoor
