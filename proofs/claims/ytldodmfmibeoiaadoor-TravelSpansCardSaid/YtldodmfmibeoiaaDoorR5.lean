/- Travel: the document's above: how much one number can be above another one. -/
import Derived.Test.YtldodmfmibeoiaaDoorR4
namespace Go.Proofs.YtldodmfmibeoiaaDoor
open Go.RowKit
theorem nar_above {r : Rnd} (hv : r.valid = true) {off : Int} (hok : okT (r.D off) = true) {a b : Nat} (ha : a < 1 + r.nb.toNat + r.nm.toNat) (hb : b < 1 + r.nb.toNat + r.nm.toNat) {w w' : World} {e : Ending} (h : NarPost (r.rulesR off r.n r.t).2 (r.rulesR off r.n r.t).1 (1 + r.nb.toNat + r.nm.toNat) (fromB b) w e w') : Below w.heap.size w w' ∧ ∃ oo co f, e = .returned (.tuple #[.slice oo (1 + r.nb.toNat + r.nm.toNat) co, .bool true]) ∧ IntsAt w' oo (1 + r.nb.toNat + r.nm.toNat) f ∧ f a = r.abv off a b := by
  refine ⟨h.1, ?_⟩
  obtain ⟨⟨q, hq, hs⟩, h2⟩ := Rnd.above_doc hv hok ha hb
  rcases h.2 with ⟨q, hq, hs, oo, co, rfl, hI⟩ | ⟨hs2, rfl⟩
  · exact ⟨oo, co, _, rfl, hI, h2 q hq hs⟩
  · rw [hs2 q hq] at hs; cases hs
theorem nones_put {cs : Array Value} {n b : Nat} (h : Nums cs n (fun _ => 1073741824)) (hb : b < n) : Nums (cs.setIfInBounds b (.int .i64 0)) n (fromB b) := fun i hi => by
  rw [Array.getElem?_setIfInBounds]
  unfold fromB
  by_cases h9 : b = i
  · subst h9
    rw [if_pos rfl, if_pos (h.size hb), if_pos rfl]
  · rw [if_neg h9, if_neg (fun h8 => h9 h8.symm)]
    exact h i hi
set_option maxRecDepth 100000 in
set_option maxHeartbeats 8000000 in
theorem above_any (r : Rnd) (oa : Option Addr) (ca : Nat) (off : Int) (a b : Nat) (w : World) (hv : r.valid = true) (hok : okT (r.D off) = true) (ha : a < 1 + r.nb.toNat + r.nm.toNat) (hb : b < 1 + r.nb.toNat + r.nm.toNat) (hA : TrpsAt w oa r.n r.t) :
    Calls Tryd.prog 56 #[r.val oa ca, .int .i64 off, .int .i64 (a : Nat), .int .i64 (b : Nat)] w fun e w' => e = .returned (.int .i64 (r.abv off a b)) ∧ Below w.heap.size w w' := by
  have HA := Lib.hid hA
  clear hA
  have hh := Rnd.valid_head hv
  have hnl := r.rulesR_le off r.n r.t (by omega)
  have HR := Lib.hid (fun (W : World) (h : Below w.heap.size w W) => rules_any r oa ca off oa r.n ca r.t W (by omega) (by omega) (by omega) (fun k hk => Rnd.valid_ok hv k hk) (HA.out.mono h))
  have HN := Lib.hid (fun (W : World) ol cl om cm (h : RulsAt W ol (r.rulesR off r.n r.t).1 (r.rulesR off r.n r.t).2) (hM : IntsAt W om (1 + r.nb.toNat + r.nm.toNat) (fromB b)) => (narrow_any ol (r.rulesR off r.n r.t).1 cl (r.rulesR off r.n r.t).2 om (1 + r.nb.toNat + r.nm.toNat) cm (fromB b) W (by omega) (by omega) (by omega) h hM (Rnd.rules_fine hv off) (fromB_bnd b)).mono (fun e w' h9 => nar_above hv hok ha hb h9))
  obtain ⟨RR, hRR⟩ : ∃ x, x = r.rulesR off r.n r.t := ⟨_, rfl⟩
  obtain ⟨res, hres⟩ : ∃ x, x = r.abv off a b := ⟨_, rfl⟩
  rw [← hRR] at HR HN hnl
  rw [← hres] at HN ⊢
  clear hRR hv hok hres
  obtain ⟨nb0, nm0, most, n, t⟩ := r
  simp only at hh HN HA ha hb
  obtain ⟨nb, rfl⟩ : ∃ nb : Nat, nb0 = nb := ⟨nb0.toNat, by omega⟩
  obtain ⟨nm, rfl⟩ : ∃ nb : Nat, nm0 = nb := ⟨nm0.toNat, by omega⟩
  simp only [Int.toNat_natCast] at HN ha hb
  have h1 : nb ≤ 6 := by omega
  have h2 : nm ≤ 6 := by omega
  clear hh hnl
  obtain ⟨N, hN⟩ : ∃ N, N = 1 + nb + nm := ⟨_, rfl⟩
  have HNN := Lib.hid (show (1 : Int) + (nb : Int) + (nm : Int) = (N : Int) by omega)
  have hN13 : N ≤ 13 := by omega
  have hN1 : 1 ≤ N := by omega
  rw [← hN] at HN ha hb
  clear hN
  obtain ⟨iR, hiR, hzR0, hzR1, hzR2⟩ := info_parts (P := Tryd.prog) (e := 3) (z := .int .i64 0) (size := 1) (bytes := 8) (by kernel_rfl)
  go_enter Tryd.func56, Tryd.ntmps56
  go_wp2_with fail
  have hb0 := below_alloc1 w (.cells #[.int .i64 nb, .int .i64 nm, .int .i64 most, .slice oa n ca] 24)
  have hB := Box.new (g := w.heap.size) #[.int .i64 nb, .int .i64 nm, .int .i64 most, .slice oa n ca] 24 w rfl
  obtain ⟨W, hW⟩ : ∃ X, X = w.alloc (.cells #[.int .i64 nb, .int .i64 nm, .int .i64 most, .slice oa n ca] 24) := ⟨_, rfl⟩
  rw [← hW] at hb0 hB ⊢
  clear hW
  obtain ⟨gr, hgr⟩ : ∃ G, G = w.heap.size := ⟨_, rfl⟩
  rw [← hgr] at hB ⊢
  clear hgr
  have HB := Lib.hid hB
  have HL := Lib.hid hb0
  clear hB hb0
  obtain ⟨wo, rfl⟩ : ∃ wo : World, wo = W := ⟨_, rfl⟩
  go_loopw [9, 10] (fun v9 v10 wr => ∃ k : Nat, k ≤ N ∧ v10 = .int .i64 k ∧ Hid (wr.ownsRow w.heap.size 3 1 v9 k (intNews k (fun _ => 1073741824))) ∧ Hid (Below w.heap.size w wr) ∧ Hid (Box gr #[.int .i64 nb, .int .i64 nm, .int .i64 most, .slice oa n ca] 24 wr)) (fun _ i _ => N - (intOf i).toNat)
  case atStart => exact ⟨0, by omega, rfl, Lib.hid owns_none, HL, HB⟩
  case round =>
    clear HL HB
    obtain ⟨k, hk, rfl, HOW, HL, HB⟩ := hrel
    have b0 := HB.out.cell 0 (v := .int .i64 nb) rfl
    have b1 := HB.out.cell 1 (v := .int .i64 nm) rfl
    have b4 := HB.out.lt
    have hls := HL.out.size
    by_cases hlt : k < N
    · have z : decide ((k : Int) < 1 + (nb : Int) + (nm : Int)) = true := by have := HNN.out; simp; omega
      obtain ⟨oS, cS, rfl, -⟩ := owns_form HOW.out
      go_wp2_with (at_builtin; refine wpList_append_gen rfl (.tmp 23) (.tmp 24) _ rfl w.heap.size 3 iR _ 1 8 Tryd.underlying37 hiR hzR0 hzR1 hzR2 rfl (by omega) (.slice oS k cS) k (intNews k (fun _ => 1073741824)) rfl (some ⟨wr.heap.size, 0, none⟩) 1 1 [.int .i64 1073741824] rfl (HOW.out.alloc _) (fun e9 => by cases e9) rfl (fun ad9 e9 j9 u9 hu9 => by cases e9; exact news_blk1 (e := 3) (heap_new rfl) hu9) (by simp [Value.oneCell']) (by simp only [maxLen]; omega) (by omega) (by simp; omega) ?_; intro vS wS hownS hgrowS)
      have HLS := Lib.hid (show Below w.heap.size w wS from HL.out.trans ((below_alloc1 wr (.cells #[.int .i64 1073741824] 3)).mono hls |>.trans (below_row HOW.out hgrowS hls)))
      have HBS := Lib.hid (box_grown (HB.out.old (.cells #[.int .i64 1073741824] 3)) (HOW.out.alloc _) (by decide) hgrowS)
      have HOS := Lib.hid (show wS.ownsRow w.heap.size 3 1 vS (k + 1) (intNews (k + 1) (fun _ => 1073741824)) by rw [int_news_succ]; exact hownS)
      clear hownS hgrowS HOW HL HB
      go_roundw
      case rel => exact ⟨k + 1, by omega, by go_num, HOS, HLS, HBS⟩
      case measure => simp [intOf]; omega
    · obtain rfl : k = N := by omega
      have z : decide ((k : Int) < 1 + (nb : Int) + (nm : Int)) = false := by have := HNN.out; simp; omega
      obtain ⟨g, cap, cs, rfl, hgb, hbx, hnm⟩ := owns_nums HOW.out (by omega)
      have u1 := hbx.lt
      have u2 := hbx.cell b (hnm b hb)
      have u3 := hbx.frozen b
      have x1 : (0 : Int) ≤ (b : Int) := by omega
      have x2 : (b : Int) < (k : Int) := by omega
      go_upto_region 7 with fail
      clear u1 u2 u3 b0 b1 b4 HOW
      have hgne : gr ≠ g := fun e9 => by
        subst e9
        have h9 := HB.out.row.symm.trans hbx.row
        simp at h9
      have hI : IntsAt (wr.setCell ⟨g, b, none⟩ (.int .i64 0)) (some ⟨g, 0, none⟩) k (fromB b) := (nones_put hnm hb).at (hbx.set b (.int .i64 0))
      have hB2 := HB.out.other hgne b (.int .i64 0)
      have hL2 := HL.out.trans ((Only.refl g wr).setCell b (.int .i64 0) |>.below (B := w.heap.size) hgb)
      obtain ⟨X, hX⟩ : ∃ X, X = wr.setCell ⟨g, b, none⟩ (.int .i64 0) := ⟨_, rfl⟩
      rw [← hX] at hI hB2 hL2 ⊢
      clear hX hbx hnm HB HL
      have HI := Lib.hid hI
      have HL := Lib.hid hL2
      have b0 := hB2.cell 0 (v := .int .i64 nb) rfl
      have b1 := hB2.cell 1 (v := .int .i64 nm) rfl
      have b2 := hB2.cell 2 (v := .int .i64 most) rfl
      have b3 := hB2.cell 3 (v := .slice oa n ca) rfl
      have b4 := hB2.lt
      clear hI hB2 hL2
      go_wp2_with fail
      refine (HR.out X HL.out).mono ?_
      rintro e w3 ⟨hb3, v, rfl, hown⟩
      obtain ⟨oR, cR, rfl, hRul, -⟩ := owns_ruls hown
      have HRU := Lib.hid hRul
      replace HI := Lib.hid (HI.out.mono hb3)
      replace HL := Lib.hid (HL.out.trans (hb3.mono HL.out.size))
      clear hb3 hown hRul b0 b1 b2 b3 b4
      go_wp2_with fail
      refine (HN.out w3 _ _ _ _ HRU.out HI.out).mono ?_
      rintro e w4 ⟨hb4, oo, co, f, rfl, hIf, hfa⟩
      replace HL := Lib.hid (HL.out.trans (hb4.mono HL.out.size))
      obtain ⟨b9, o9, rfl, hl9, c9⟩ := hIf a ha
      rw [hfa] at c9
      have y1 : (0 : Int) ≤ (a : Int) := by omega
      have y2 : (a : Int) < (k : Int) := by omega
      clear hb4 hIf hfa HI HRU
      go_wp2_with fail
      go_ret
      exact ⟨rfl, HL.out⟩
end Go.Proofs.YtldodmfmibeoiaaDoor
