/- The document's Errors says what the program's says. -/
import Derived.Test.YthoefcpeagclbaaW32
namespace Go.Proofs.Ythoefcpeagclbaa
open Go.RowKit
theorem errorT_any (s v : Int) (w : World) (h1 : -100000000000000 ≤ s ∧ s ≤ 100000000000000) (h2 : -100000000000000 ≤ v ∧ v ≤ 100000000000000) :
    Calls Try.prog 29 #[.int .i64 s, .int .i64 v] w fun e w' => e = .returned (.agg #[.int .i64 (10000 * (s - v)), .int .i64 v]) ∧ Below w.heap.size w w' := error_any s v w h1 h2
set_option maxRecDepth 100000 in
set_option maxHeartbeats 8000000 in
theorem refErrors_any (b : Bnch) (x : Ctch) (oa : Option Addr) (cap : Nat) (or : Option Addr) (m cr : Nat) (r : Nat → Spn) (w : World) (hn : b.n ≤ 1000000) (hT : MarksAt w oa b.n b.t) (hm : m ≤ 1000) (hR : SpnsAt w or m r) :
    Calls Try.prog 16 #[b.val oa cap, x.val, .slice or m cr] w fun e w' => ∃ oo cp, e = .returned (.tuple #[.slice oo (cnt (b.testR x m r).2 m) cp, .int .i64 (b.testR x m r).2]) ∧ SpnsAt w' oo (cnt (b.testR x m r).2 m) (fun i => errR (b.testR x m r).1 (r i)) ∧ Below w.heap.size w w' := by
  have HN := Lib.hid (fun (w' : World) (hb : Below w.heap.size w w') => start_any b x oa cap or m cr r w' hn (hT.mono hb) (by omega) (hR.mono hb))
  have HL := Lib.hid hR
  have hok := testR_ok (b := b) (x := x) (m := m) (r := r)
  clear hT hR
  generalize b.testR x m r = p at *
  obtain ⟨v, e9⟩ := p
  dsimp only at hok ⊢
  have HO := Lib.hid hok
  clear hok
  obtain ⟨iR, hiR, hzR0, hzR1, hzR2⟩ := info_parts (P := Try.prog) (e := 24) (z := .agg #[.int .i64 0, .int .i64 0]) (size := 2) (bytes := 16) (by kernel_rfl)
  go_enter Try.func16, Try.ntmps16
  go_wp2_with fail
  have hbw : Below w.heap.size w (two 26 b oa cap x w) := two_below 26 b oa cap x w
  refine (HN.out _ hbw).mono ?_
  rintro e w1 ⟨rfl, hb1⟩
  have hbw1 := hbw.trans (hb1.mono hbw.size)
  clear hb1 hbw
  go_upto_region 2 with fail
  have T8 := (Box.new #[.int .i64 v.lo, .int .i64 v.hi] 24 w1 rfl)
  have hbw2 := hbw1.alloc hbw1.size (.cells #[.int .i64 v.lo, .int .i64 v.hi] 24)
  have hr1 := hbw1.size
  obtain ⟨g, hg⟩ : ∃ N, N = w1.heap.size := ⟨_, rfl⟩
  obtain ⟨W0, hw2⟩ : ∃ X, X = w1.alloc (.cells #[.int .i64 v.lo, .int .i64 v.hi] 24) := ⟨_, rfl⟩
  rw [← hw2] at T8 hbw2 ⊢
  rw [← hg] at T8 hr1 ⊢
  clear hw2 hg hbw1
  have t0 := T8.cell 0 rfl
  have t1 := T8.cell 1 rfl
  have tl := T8.lt
  clear T8
  by_cases he : e9 = 0
  · subst he
    obtain ⟨k0, k1, k2, k3, k4⟩ := HO.out (by simp)
    have HB := Lib.hid k4
    clear k4
    go_wp2_with fail
    go_loopw [10, 11] (fun v10 v11 wr => ∃ k : Nat, k ≤ m ∧ v11 = .int .i64 k ∧ wr.ownsRow W0.heap.size 24 2 v10 k (spanNews k (fun i => errR v (r i))) ∧ Below W0.heap.size W0 wr) (fun _ i _ => m - (intOf i).toNat)
    case atStart => exact ⟨0, Nat.zero_le _, rfl, owns_none, Below.refl _ _⟩
    case round =>
      obtain ⟨k, hk, rfl, hown, hbp⟩ := hrel
      have hsp := hbp.size
      by_cases hlt : k < m
      · have hd0 : decide (k < m) = true := by simpa using hlt
        have hki : (k : Int) < (m : Int) := by omega
        have hki0 : (0 : Int) ≤ (k : Int) := by omega
        obtain ⟨bb, off, rfl, hlt0, c0, c1⟩ := (HL.out.mono hbw2) k hlt
        obtain ⟨b0, b1, b2⟩ := HB.out k hlt
        obtain ⟨oS, cS, rfl, -⟩ := owns_form hown
        have HOWN := Lib.hid hown
        clear hown
        have c0' := (hbp.cell (p := ⟨bb, off + k * 2, none⟩) hlt0).trans c0
        have c1' := (hbp.cell (p := ⟨bb, off + k * 2 + 1, none⟩) hlt0).trans c1
        have t0' := (hbp.cell (p := ⟨g, 0, none⟩) tl).trans t0
        have t1' := (hbp.cell (p := ⟨g, 1, none⟩) tl).trans t1
        go_wp2_with fail
        go_region_held3 (fun w' => w'.cell? ⟨g, 0, none⟩ = some (.int .i64 v.lo) ∧ w'.cell? ⟨g, 1, none⟩ = some (.int .i64 v.hi) ∧ w'.cell? ⟨bb, off + k * 2, none⟩ = some (.int .i64 (r k).lo) ∧ w'.cell? ⟨bb, off + k * 2 + 1, none⟩ = some (.int .i64 (r k).hi)) ((refine ⟨(Below.cell (p := ⟨g, 0, none⟩) (w := W0) ?_ tl).trans t0, (Below.cell (p := ⟨g, 1, none⟩) (w := W0) ?_ tl).trans t1, (Below.cell (p := ⟨bb, off + k * 2, none⟩) (w := W0) ?_ hlt0).trans c0, (Below.cell (p := ⟨bb, off + k * 2 + 1, none⟩) (w := W0) ?_ hlt0).trans c1⟩ <;> (repeat' (first | assumption | exact Below.refl _ _ | apply Below.drew | (refine Below.alloc ?_ (by first | omega | (simp; done) | (simp; omega)) _))))) (first | ((go_at_call 29; refine (errorT_any _ _ _ (by omega) (by omega)).mono ?_; rintro e w9 ⟨rfl, hb9'⟩; have hbq : Below wr.heap.size wr w9 := Below.trans (by repeat' (first | assumption | exact Below.refl _ _ | apply Below.drew)) (hb9'.mono (by first | omega | (simp; done) | (simp; omega))); have hsq := hbq.size; have hbp' : Below W0.heap.size W0 w9 := hbp.trans (hbq.mono hsp))) | ((go_at_call 27; refine (down_tu _ _ _ (by omega) (by omega)).mono ?_; rintro e w9 ⟨rfl, hb9'⟩; have hbq : Below wr.heap.size wr w9 := Below.trans (by repeat' (first | assumption | exact Below.refl _ _ | apply Below.drew)) (hb9'.mono (by first | omega | (simp; done) | (simp; omega))); have hsq := hbq.size; have hbp' : Below W0.heap.size W0 w9 := hbp.trans (hbq.mono hsp))) | ((go_at_call 28; refine (up_tu _ _ _ (by omega) (by omega)).mono ?_; rintro e w9 ⟨rfl, hb9'⟩; have hbq : Below wr.heap.size wr w9 := Below.trans (by repeat' (first | assumption | exact Below.refl _ _ | apply Below.drew)) (hb9'.mono (by first | omega | (simp; done) | (simp; omega))); have hsq := hbq.size; have hbp' : Below W0.heap.size W0 w9 := hbp.trans (hbq.mono hsp))) | ((refine step_append_gen (by rfl) (.tmp 28) (.tmp 48) _ (by rfl) W0.heap.size 24 iR _ 2 16 Try.underlying36 hiR hzR0 hzR1 hzR2 rfl (by omega) (.slice oS k cS) k (spanNews k (fun i => errR v (r i))) (by rfl) _ 1 1 [.int .i64 (errR v (r k)).lo, .int .i64 (errR v (r k)).hi] (by rfl) (by first | exact (owns_below HOWN.out hbq).alloc _ | exact ((owns_below HOWN.out hbq).alloc _).drew | exact (owns_below HOWN.out hbq.drew).alloc _) (fun e9 => by cases e9) rfl (fun ad9 e9 j9 u9 hu9 => by cases e9; refine news_blk2 (e := 24) ?_ hu9; exact heap_new (by first | omega | (simp; done) | (simp; omega))) (by simp [Value.oneCell']) (by simp only [maxLen]; omega) (by omega) (by first | omega | (simp; done) | (simp; omega)) ?_; intro vS wS hownS hgrowS; have hbp9 : Below W0.heap.size W0 wS := Below.trans (Below.alloc hbp' (by first | omega | (simp; done) | (simp; omega)) _) (below_row (owns_below HOWN.out hbq) hgrowS (by omega)))))
        all_goals
          go_wp2_with fail
          go_roundw
          case rel => exact ⟨k + 1, by omega, by go_num, by unfold spanNews; rw [pair_news_succ]; exact hownS, by first | exact hbp9 | exact hbp9.drew⟩
          case measure => simp [intOf]; omega
      · obtain rfl : k = m := by omega
        have hd0 : decide (k < k) = false := by simp
        obtain ⟨oS, cS, rfl, hsp2, -⟩ := owns_spans hown
        have HS := Lib.hid hsp2
        clear hsp2 hown
        go_wp2_with fail
        refine bodyPost_ret (v := .tuple #[.slice oS k cS, .int .i64 0]) (by simp [results, Try.results16, go_sem]) rfl ⟨oS, cS, rfl, HS.out, hbw2.trans (hbp.mono hbw2.size)⟩
  · have hne : (e9 != 0) = true := by simpa using he
    go_wp2_with fail
    refine bodyPost_ret (v := .tuple #[.slice none 0 0, .int .i64 e9]) (by simp [results, Try.results16, go_sem]) rfl ⟨none, 0, by rw [cnt_ne he], fun i hi => by rw [cnt_ne he] at hi; omega, (by repeat' (first | exact Below.refl _ _ | assumption | apply below_drewN | apply Below.drew | (refine Below.alloc ?_ ?_ _) | (refine Below.setCell ?_ ?_ _) | (simp; done) | (simp; omega) | omega))⟩
end Go.Proofs.Ythoefcpeagclbaa
