/- Passed tells which meters of a row pass, or why that is not known. -/
import Derived.Test.YthoefcpeagclbaaW29
namespace Go.Proofs.Ythoefcpeagclbaa
open Go.RowKit
set_option maxRecDepth 100000 in
set_option maxHeartbeats 4000000 in
theorem eachPass_any (v : Spn) (most : Int) (g h : Nat) (or : Option Addr) (m cr : Nat) (r : Nat → Spn) (w : World) (h0 : 1 ≤ v.lo) (h1 : v.lo ≤ v.hi) (hv : v.hi ≤ 100000000000000) (hmo : 0 ≤ most ∧ most ≤ 10000) (hm : m ≤ 1000) (hR : SpnsAt w or m r) (hr : ∀ i, i < m → 0 ≤ (r i).lo ∧ (r i).lo ≤ (r i).hi ∧ (r i).hi ≤ 1073741824)
    (hG : SB v 83 g w) (hH : Box h #[.int .i64 most] 3 w) :
    Calls Try.prog 44 #[.slice or m cr, .func (.func 45) #[] #[.pointer (some ⟨g, 0, none⟩), .pointer (some ⟨h, 0, none⟩)]] w fun e w' => ∃ oo cp, e = .returned (.slice oo m cp) ∧ IntsAt w' oo m (fun i => passR v (r i) most) ∧ Below w.heap.size w w' := by
  have HL := Lib.hid hR
  have HB := Lib.hid hr
  have HG := Lib.hid hG
  have HM := Lib.hid hH
  clear hR hr hG hH
  obtain ⟨iR, hiR, hzR0, hzR1, hzR2⟩ := info_parts (P := Try.prog) (e := 3) (z := .int .i64 0) (size := 1) (bytes := 8) (by kernel_rfl)
  go_enter Try.func44, Try.ntmps44
  go_wp2_with fail
  go_loopw [4, 9] (fun v4 v9 wr => ∃ k : Nat, k ≤ m ∧ v9 = .int .i64 k ∧ wr.ownsRow w.heap.size 3 1 v4 k (intNews k (fun i => passR v (r i) most)) ∧ Below w.heap.size w wr) (fun _ i _ => m - (intOf i).toNat)
  case atStart => exact ⟨0, Nat.zero_le _, rfl, owns_none, Below.refl _ _⟩
  case round =>
    obtain ⟨k, hk, rfl, hown, hb⟩ := hrel
    by_cases hlt : k < m
    · have hd0 : decide (k < m) = true := by simpa using hlt
      obtain ⟨bb, off, rfl, hlt0, c0, c1⟩ := (HL.out.mono hb) k hlt
      obtain ⟨b0, b1, b2⟩ := HB.out k hlt
      obtain ⟨oS, cS, rfl, -⟩ := owns_form hown
      go_wp2_with fail
      have hbq := hb.alloc hb.size (.cells #[.int .i64 (r k).lo, .int .i64 (r k).hi] 24)
      refine (pass1_any v (r k) most g h _ h0 h1 hv (by omega) (by omega) hmo (HG.out.below hbq) (HM.out.below hbq)).mono ?_
      rintro e w1 ⟨rfl, hb1⟩
      have hbz := (below_alloc1 wr (.cells #[.int .i64 (r k).lo, .int .i64 (r k).hi] 24)).trans (hb1.mono (by simp))
      have hown1 := owns_below hown hbz
      have hbr := hb.trans (hbz.mono hb.size)
      have hs1 := hbr.size
      clear hown hbz hb1 c0 c1 hlt0 hbq
      go_wp2_with (at_builtin; refine wpList_append_gen rfl (.tmp 13) (.tmp 17) _ rfl w.heap.size 3 iR _ 1 8 Try.underlying39 hiR hzR0 hzR1 hzR2 rfl (by omega) (.slice oS k cS) k (intNews k (fun i => passR v (r i) most)) rfl (some ⟨w1.heap.size, 0, none⟩) 1 1 [.int .i64 (passR v (r k) most)] rfl (hown1.alloc _) (fun e9 => by cases e9) rfl (fun ad9 e9 j9 u9 hu9 => by cases e9; exact news_blk1 (e := 3) (heap_new rfl) hu9) (by simp [Value.oneCell']) (by simp only [maxLen]; omega) (by omega) (by simp; omega) ?_; intro vS wS hownS hgrowS)
      go_roundw
      case rel => exact ⟨k + 1, by omega, by go_num, by rw [int_news_succ]; exact hownS, hbr.trans ((below_alloc1 w1 _).mono (by omega) |>.trans (below_row hown1 hgrowS (by omega)))⟩
      case measure => simp [intOf]; omega
    · obtain rfl : k = m := by omega
      have hd0 : decide (k < k) = false := by simp
      obtain ⟨oS, cS, rfl, hsp, -⟩ := owns_ints hown
      have HS := Lib.hid hsp
      clear hsp hown
      go_wp2_with fail
      go_ret
      exact ⟨oS, cS, rfl, HS.out, hb⟩
def passE (e9 most : Int) : Int := if e9 = 0 then (if withinB most 0 10000 then 0 else 2) else e9
set_option maxRecDepth 100000 in
set_option maxHeartbeats 4000000 in
theorem Passed_any (b : Bnch) (x : Ctch) (oa : Option Addr) (cap : Nat) (or : Option Addr) (m cr : Nat) (r : Nat → Spn) (most : Int) (w : World) (hn : b.n ≤ 1000000) (hcap : b.n ≤ cap) (hT : MarksAt w oa b.n b.t) (hm : m ≤ 1000) (hR : SpnsAt w or m r) :
    Calls Try.prog 17 #[b.val oa cap, x.val, .slice or m cr, .int .i64 most] w fun e w' => ∃ oo cp, e = .returned (.tuple #[.slice oo (cnt (passE (b.testR x m r).2 most) m) cp, .int .i64 (passE (b.testR x m r).2 most)]) ∧ IntsAt w' oo (cnt (passE (b.testR x m r).2 most) m) (fun i => passR (b.testR x m r).1 (r i) most) ∧ Below w.heap.size w w' := by
  have HN := Lib.hid (fun (w' : World) (hb : Below w.heap.size w w') => newTest_any b x oa cap or m cr r w' hn hcap (hT.mono hb) (by omega) (hR.mono hb))
  have HL := Lib.hid hR
  have hok := testR_ok (b := b) (x := x) (m := m) (r := r)
  clear hT hR
  generalize b.testR x m r = p at *
  obtain ⟨v, e9⟩ := p
  dsimp only at hok ⊢
  have HO := Lib.hid hok
  clear hok
  go_enter Try.func17, Try.ntmps17
  go_wp2_with fail
  have hbw : Below w.heap.size w ((two 26 b oa cap x w).alloc (.cells #[.int .i64 most] 3)) := (two_below 26 b oa cap x w).alloc (by simp; omega) _
  have HM := Lib.hid (Box.new (g := w.heap.size + 1 + 1) #[.int .i64 most] 3 (two 26 b oa cap x w) (by simp))
  refine (HN.out _ hbw).mono ?_
  rintro e w1 ⟨rfl, hb1⟩
  have hbw1 := hbw.trans (hb1.mono hbw.size)
  have HM1 := Lib.hid (HM.out.below hb1)
  clear hb1 hbw HM
  go_upto_region 2 with fail
  have T8 := (Box.new #[.int .i64 v.lo, .int .i64 v.hi] 83 w1 rfl)
  have HM2 := Lib.hid (HM1.out.old (.cells #[.int .i64 v.lo, .int .i64 v.hi] 83))
  have hbw2 := hbw1.alloc hbw1.size (.cells #[.int .i64 v.lo, .int .i64 v.hi] 83)
  have hr1 := hbw1.size
  obtain ⟨g, hg⟩ : ∃ N, N = w1.heap.size := ⟨_, rfl⟩
  obtain ⟨w2, hw2⟩ : ∃ X, X = w1.alloc (.cells #[.int .i64 v.lo, .int .i64 v.hi] 83) := ⟨_, rfl⟩
  rw [← hw2] at T8 hbw2 HM2 ⊢
  rw [← hg] at T8 hr1 ⊢
  clear hw2 hg hbw1 HM1
  have HT8 := Lib.hid T8
  have m0 := HM2.out.cell 0 rfl
  have ml := HM2.out.lt
  clear T8
  by_cases he : e9 = 0
  · subst he
    obtain ⟨k0, k1, k2, k3, k4⟩ := HO.out rfl
    have HB := Lib.hid k4
    clear k4
    go_wp2_with fail
    refine (within_any most 0 10000 _).mono ?_
    rintro e w4 ⟨rfl, h9⟩
    have hb4 : Below w2.heap.size w2 w4 := h9 ▸ Below.refl _ _
    clear h9
    have HM3 := Lib.hid (HM2.out.below hb4)
    have HT3 := Lib.hid (HT8.out.below hb4)
    have hbw3 := hbw2.trans (hb4.mono hbw2.size)
    clear hb4 hbw2 m0 ml HM2 HT8
    by_cases hq : withinB most 0 10000 = true
    · have HPE := Lib.hid (show passE 0 most = 0 by unfold passE; rw [if_pos rfl, if_pos hq])
      have hmo : 0 ≤ most ∧ most ≤ 10000 := by simpa [withinB] using hq
      rw [hq]
      go_wp2_with fail
      refine (eachPass_any v most g _ or m cr r _ k0 k1 (by omega) hmo hm (HL.out.mono hbw3) HB.out HT3.out HM3.out).mono ?_
      rintro e w3 ⟨oo, cp, rfl, hS, hb3⟩
      have HS := Lib.hid hS
      clear hS
      go_wp2_with fail
      refine bodyPost_ret (v := .tuple #[.slice oo m cp, .int .i64 0]) (by simp [results, Try.results17, go_sem]) rfl ⟨oo, cp, by rw [HPE.out, cnt_zero], by rw [HPE.out, cnt_zero]; exact HS.out, hbw3.trans (hb3.mono hbw3.size)⟩
    · have HPE := Lib.hid (show passE 0 most = 2 by unfold passE; rw [if_pos rfl, if_neg hq])
      replace hq : withinB most 0 10000 = false := by simpa using hq
      rw [hq]
      go_wp2_with fail
      refine bodyPost_ret (v := .tuple #[.slice none 0 0, .int .i64 2]) (by simp [results, Try.results17, go_sem]) rfl ⟨none, 0, by rw [HPE.out, cnt_ne (by omega)], fun i hi => by rw [HPE.out, cnt_ne (by omega)] at hi; omega, (by repeat' (first | exact Below.refl _ _ | assumption | apply below_drewN | apply Below.drew | (refine Below.alloc ?_ ?_ _) | (refine Below.setCell ?_ ?_ _) | (simp; done) | (simp; omega) | omega))⟩
  · have hne : (e9 != 0) = true := by simpa using he
    have HPE := Lib.hid (show passE e9 most = e9 from if_neg he)
    go_wp2_with fail
    refine bodyPost_ret (v := .tuple #[.slice none 0 0, .int .i64 e9]) (by simp [results, Try.results17, go_sem]) rfl ⟨none, 0, by rw [HPE.out, cnt_ne he], fun i hi => by rw [HPE.out, cnt_ne he] at hi; omega, (by repeat' (first | exact Below.refl _ _ | assumption | apply below_drewN | apply Below.drew | (refine Below.alloc ?_ ?_ _) | (refine Below.setCell ?_ ?_ _) | (simp; done) | (simp; omega) | omega))⟩
end Go.Proofs.Ythoefcpeagclbaa
