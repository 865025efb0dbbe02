/- The document's densities: the least and the greatest value of a valid table over a span within it. -/
import Derived.Test.YthoefcpeagclbaaW15
import Derived.Test.YthoefcpeagclbaaP2
import Derived.Deep.Light
import Derived.Test.YthoefcpeagclbaaGarb
namespace Go.Proofs.Ythoefcpeagclbaa
open Go.RowKit
theorem Two.box {p q g : Nat} {cs : Array Value} {t : TypeId} {w w' : World} (h : Two p q w w') (hb : Box g cs t w) (hp : g ≠ p) (hq : g ≠ q) : Box g cs t w' := ⟨(h.block g hb.lt hp hq).trans hb.row⟩
theorem dens_dense {n : Nat} {t : Nat → Mark} {s : Spn} (h : Tab n t) (h0 : (t 0).at_ ≤ s.lo) (h1 : s.lo ≤ s.hi) (h2 : s.hi ≤ (t (n - 1)).at_) : ∀ i, i < (densL n t s).length → Dense (densF n t s i) := fun i hi =>
  ext_dense h h0 h1 h2 (i + 1) (by simp [extL, densL] at hi ⊢; omega)
theorem below_row {w w' : World} {o : Obj} {base e size n : Nat} {v : Value} {xs : List Value} (h : w.ownsRow base e size v n xs) (hg : (w.alloc o).grownBy w' v.ownBlock) (hb : base ≤ w.heap.size) : Below base (w.alloc o) w' := by
  refine ⟨hg.os, hg.tape, hg.output, hg.size, fun k hk => hg.block k (by simp; omega) (fun e9 => ?_)⟩
  have := h.lt k e9.symm
  omega
theorem pairsOf_one (x : Frac) : pairsOf [x] = [.int .i64 x.top, .int .i64 x.under] := pairsOf_snoc [] x
set_option maxRecDepth 100000 in
set_option maxHeartbeats 8000000 in
theorem densities_any (b : Bnch) (s : Spn) (oa : Option Addr) (cap : Nat) (w : World) (hV : Tab b.n b.t) (hT : MarksAt w oa b.n b.t) (h1 : (b.t 0).at_ ≤ s.lo) (h2 : s.lo ≤ s.hi) (h3 : s.hi ≤ (b.t (b.n - 1)).at_) :
    Calls Try.prog 56 #[b.val oa cap, s.val] w fun e w' => e = .returned (.tuple #[(bestN Frac.lt (densF b.n b.t s) (tabAt b.n b.t s.lo) (densL b.n b.t s).length).val, (bestN (fun a b => Frac.lt b a) (densF b.n b.t s) (tabAt b.n b.t s.lo) (densL b.n b.t s).length).val]) ∧ Below w.heap.size w w' := by
  have HV := Lib.hid hV
  have HT := Lib.hid hT
  have h4 := Int.le_trans h2 h3
  have h5 := Int.le_trans h1 h2
  clear hV hT
  go_enter Try.func56, Try.ntmps56
  go_wp2_with fail
  obtain ⟨W, hW⟩ : ∃ X, X = (((w.alloc (.cells #[.bool b.weighs, .slice oa b.n cap, .int .i64 b.off, .int .i64 b.buoy.lo, .int .i64 b.buoy.hi, .int .i64 b.air.lo, .int .i64 b.air.hi] 26)).alloc (.cells #[.int .i64 s.lo, .int .i64 s.hi] 24)).alloc (.cells #[.int .i64 0, .int .i64 0] 50)).alloc (.cells #[.int .i64 0, .int .i64 0] 50) := ⟨_, rfl⟩
  have HB := Lib.hid (show BB 26 b oa cap w.heap.size W by rw [hW]; exact (((Box.new _ 26 w rfl).old _).old _).old _)
  have HS := Lib.hid (show Box (w.heap.size + 1) #[.int .i64 s.lo, .int .i64 s.hi] 24 W by rw [hW]; exact ((Box.new _ 24 _ (by simp)).old _).old _)
  have HL := Lib.hid (show Box (w.heap.size + 1 + 1) #[.int .i64 0, .int .i64 0] 50 W by rw [hW]; exact (Box.new _ 50 _ (by simp)).old _)
  have HH := Lib.hid (show Box (w.heap.size + 1 + 1 + 1) #[.int .i64 0, .int .i64 0] 50 W by rw [hW]; exact Box.new _ 50 _ (by simp))
  have hbw : Below w.heap.size w W := by rw [hW]; exact (by repeat' (first | exact Below.refl _ _ | assumption | apply below_drewN | apply Below.drew | (refine Below.alloc ?_ ?_ _) | (refine Below.setCell ?_ ?_ _) | (simp; done) | (simp; omega) | omega))
  rw [← hW]
  clear hW
  obtain ⟨b0, b1, b2, b3, b4, b5, b6, b7⟩ := BB.cells (b := b) HB.out
  have s0 := HS.out.cell 0 rfl
  have s1 := HS.out.cell 1 rfl
  have sl := HS.out.lt
  go_cut [6, 7] from 11 to 18 (fun s6 s7 wx => Below W.heap.size W wx ∧ ∃ g h, g ≠ h ∧ W.heap.size ≤ g ∧ W.heap.size ≤ h ∧ s6 = .pointer (some ⟨g, 0, none⟩) ∧ s7 = .pointer (some ⟨h, 0, none⟩) ∧ PC g (tabAt b.n b.t s.lo) wx ∧ PC h (tabAt b.n b.t s.lo) wx)
  case first =>
    go_region_held3 (fun w' => w'.cell? ⟨w.heap.size, 0, none⟩ = some (.bool b.weighs) ∧ w'.cell? ⟨w.heap.size, 1, none⟩ = some (.slice oa b.n cap) ∧ w'.cell? ⟨w.heap.size, 2, none⟩ = some (.int .i64 b.off) ∧ w'.cell? ⟨w.heap.size, 3, none⟩ = some (.int .i64 b.buoy.lo) ∧ w'.cell? ⟨w.heap.size, 4, none⟩ = some (.int .i64 b.buoy.hi) ∧ w'.cell? ⟨w.heap.size, 5, none⟩ = some (.int .i64 b.air.lo) ∧ w'.cell? ⟨w.heap.size, 6, none⟩ = some (.int .i64 b.air.hi) ∧ w'.cell? ⟨w.heap.size + 1, 0, none⟩ = some (.int .i64 s.lo)) ((refine ⟨(Below.cell (p := ⟨w.heap.size, 0, none⟩) (w := W) ?_ b7).trans b0, (Below.cell (p := ⟨w.heap.size, 1, none⟩) (w := W) ?_ b7).trans b1, (Below.cell (p := ⟨w.heap.size, 2, none⟩) (w := W) ?_ b7).trans b2, (Below.cell (p := ⟨w.heap.size, 3, none⟩) (w := W) ?_ b7).trans b3, (Below.cell (p := ⟨w.heap.size, 4, none⟩) (w := W) ?_ b7).trans b4, (Below.cell (p := ⟨w.heap.size, 5, none⟩) (w := W) ?_ b7).trans b5, (Below.cell (p := ⟨w.heap.size, 6, none⟩) (w := W) ?_ b7).trans b6, (Below.cell (p := ⟨w.heap.size + 1, 0, none⟩) (w := W) ?_ sl).trans s0⟩ <;> (repeat' (first | assumption | exact Below.refl _ _ | apply Below.drew | (refine Below.setCell ?_ (by dsimp only; omega) _) | (refine Below.alloc ?_ (by first | omega | (simp; done) | (simp; omega)) _))))) (first | ((go_at_call 52; have hq8 := hb8.size; refine (refAt_any b oa cap s.lo _ HV.out (HT.out.mono (hbw.trans (Below.mono (by repeat' (first | assumption | exact Below.refl _ _ | apply Below.drew | (refine Below.alloc ?_ (by first | omega | (simp; done) | (simp; omega)) _))) hbw.size))) h1 h4).mono ?_; rintro e w9 ⟨rfl, hb9⟩; have hbq : Below W.heap.size W w9 := Below.trans (by repeat' (first | assumption | exact Below.refl _ _ | apply Below.drew | (refine Below.alloc ?_ (by first | omega | (simp; done) | (simp; omega)) _))) (hb9.mono (by first | omega | (simp; done) | (simp; omega))); have hsq := hbq.size; have hs9 := hb9.size; (try simp at hs9); (try have hl9 : w8.heap.size < w9.heap.size := hs9); (try have hl9' : w8.heap.size + 1 < w9.heap.size := hs9); (try have hl9 : w8.heap.size < w9.heap.size := Nat.lt_of_succ_lt hl9'); (try have hn9 := Nat.ne_of_lt hl9); (try have hm9 := Nat.ne_of_lt hl9'); have hk9 : w8.heap.size ≤ w9.heap.size := (by omega); (try have ha9 := Nat.lt_of_lt_of_le hl8 hk9); (try have hd9 := Nat.lt_of_lt_of_le hl8' hk9); (try have ha9' := Nat.ne_of_lt ha9); (try have hd9' := Nat.ne_of_lt hd9); have y0 := hb9.cell (p := ⟨W.heap.size, 0, none⟩); have yf0 := hb9.frozen (p := ⟨W.heap.size, 0, none⟩); (try simp [go_sem] at y0); (try simp [go_sem] at yf0); have y1 := hb9.cell (p := ⟨W.heap.size, 1, none⟩); have yf1 := hb9.frozen (p := ⟨W.heap.size, 1, none⟩); (try simp [go_sem] at y1); (try simp [go_sem] at yf1); have y2 := hb9.cell (p := ⟨W.heap.size + 1, 0, none⟩); have yf2 := hb9.frozen (p := ⟨W.heap.size + 1, 0, none⟩); (try simp [go_sem] at y2); (try simp [go_sem] at yf2); have y3 := hb9.cell (p := ⟨W.heap.size + 1, 1, none⟩); have yf3 := hb9.frozen (p := ⟨W.heap.size + 1, 1, none⟩); (try simp [go_sem] at y3); (try simp [go_sem] at yf3); have y4 := hb9.cell (p := ⟨w8.heap.size, 0, none⟩); have yf4 := hb9.frozen (p := ⟨w8.heap.size, 0, none⟩); (try simp [go_sem] at y4); (try simp [go_sem] at yf4); have y5 := hb9.cell (p := ⟨w8.heap.size, 1, none⟩); have yf5 := hb9.frozen (p := ⟨w8.heap.size, 1, none⟩); (try simp [go_sem] at y5); (try simp [go_sem] at yf5); have y6 := hb9.cell (p := ⟨w8.heap.size + 1, 0, none⟩); have yf6 := hb9.frozen (p := ⟨w8.heap.size + 1, 0, none⟩); (try simp [go_sem] at y6); (try simp [go_sem] at yf6); have y7 := hb9.cell (p := ⟨w8.heap.size + 1, 1, none⟩); have yf7 := hb9.frozen (p := ⟨w8.heap.size + 1, 1, none⟩); (try simp [go_sem] at y7); (try simp [go_sem] at yf7))) | ((go_at_call 52; refine (refAt_any b oa cap s.lo _ HV.out (HT.out.mono (hbw.trans (Below.mono (by repeat' (first | assumption | exact Below.refl _ _ | apply Below.drew | (refine Below.alloc ?_ (by first | omega | (simp; done) | (simp; omega)) _))) hbw.size))) h1 h4).mono ?_; rintro e w8 ⟨rfl, hb8⟩; have hbp : Below W.heap.size W w8 := Below.trans (by repeat' (first | assumption | exact Below.refl _ _ | apply Below.drew | (refine Below.alloc ?_ (by first | omega | (simp; done) | (simp; omega)) _))) (hb8.mono (by first | omega | (simp; done) | (simp; omega))); have hsp := hbp.size; have hs8 := hb8.size; (try simp at hs8); (try have hl8 : W.heap.size < w8.heap.size := hs8); (try have hl8' : W.heap.size + 1 < w8.heap.size := hs8); (try have hl8 : W.heap.size < w8.heap.size := Nat.lt_of_succ_lt hl8'); (try have hn8 := Nat.ne_of_lt hl8); (try have hn8' := Ne.symm hn8); (try have hm8 := Nat.ne_of_lt hl8'); have z0 := hb8.cell (p := ⟨W.heap.size, 0, none⟩); have zf0 := hb8.frozen (p := ⟨W.heap.size, 0, none⟩); (try simp [go_sem] at z0); (try simp [go_sem] at zf0); have z1 := hb8.cell (p := ⟨W.heap.size, 1, none⟩); have zf1 := hb8.frozen (p := ⟨W.heap.size, 1, none⟩); (try simp [go_sem] at z1); (try simp [go_sem] at zf1); have z2 := hb8.cell (p := ⟨W.heap.size + 1, 0, none⟩); have zf2 := hb8.frozen (p := ⟨W.heap.size + 1, 0, none⟩); (try simp [go_sem] at z2); (try simp [go_sem] at zf2); have z3 := hb8.cell (p := ⟨W.heap.size + 1, 1, none⟩); have zf3 := hb8.frozen (p := ⟨W.heap.size + 1, 1, none⟩); (try simp [go_sem] at z3); (try simp [go_sem] at zf3))))
    all_goals
      go_wp2_with fail
      go_meet
      go_light
      refine ⟨?_, _, _, ?_, ?_, ?_, rfl, rfl, ⟨?_, ?_, ?_, ?_⟩, ⟨?_, ?_, ?_, ?_⟩⟩
      · repeat' (first | assumption | (refine Below.setCell ?_ (by dsimp only; omega) _) | (refine Below.alloc ?_ (by first | omega | (simp; done) | (simp; omega)) _))
      · omega
      · omega
      · omega
      all_goals first | (simp [go_sem, *]; done) | (have hx0 := y0 (by omega); have hx1 := y1 (by omega); simp [go_sem, *]; done)
  case rest =>
    obtain ⟨hbx, g, h, hgh, hg, hh, rfl, rfl, hG, hH⟩ := hcut
    have HB2 := Lib.hid (HB.out.below hbx)
    have HS2 := Lib.hid (HS.out.below hbx)
    have HL2 := Lib.hid (HL.out.below hbx)
    have HH2 := Lib.hid (HH.out.below hbx)
    have hbw2 := hbw.trans (hbx.mono hbw.size)
    have hh1 := HH.out.lt
    have hs2 := hbx.size
    clear HB HS HL HH hbw b0 b1 b2 b3 b4 b5 b6 b7 s0 s1 sl
    obtain ⟨W2, hW2⟩ : ∃ X, X = wc := ⟨_, rfl⟩
    rw [← hW2] at hG hH HB2 HS2 HL2 HH2 hbw2 hs2 ⊢
    clear hW2 hbx
    obtain ⟨b0, b1, b2, b3, b4, b5, b6, b7⟩ := BB.cells (b := b) HB2.out
    have s0 := HS2.out.cell 0 rfl
    have s1 := HS2.out.cell 1 rfl
    have sl := HS2.out.lt
    go_wp2_with fail
    refine (refAt_any b oa cap s.hi _ HV.out (HT.out.mono hbw2) h5 h3).mono ?_
    rintro e W3 ⟨rfl, hb3⟩
    have HB3 := Lib.hid (HB2.out.below hb3)
    have HS3 := Lib.hid (HS2.out.below hb3)
    have HL3 := Lib.hid (HL2.out.below hb3)
    have HH3 := Lib.hid (HH2.out.below hb3)
    have hbw3 := hbw2.trans (hb3.mono hbw2.size)
    have hG3 := Lib.hid (hG.below hb3)
    have hH3 := Lib.hid (hH.below hb3)
    have hs3 := hb3.size
    clear hb3 hG hH HB2 HS2 HL2 HH2 hbw2 b0 b1 b2 b3 b4 b5 b6 b7 s0 s1 sl
    obtain ⟨b0, b1, b2, b3, b4, b5, b6, b7⟩ := BB.cells (b := b) HB3.out
    have s0 := HS3.out.cell 0 rfl
    have s1 := HS3.out.cell 1 rfl
    have sl := HS3.out.lt
    go_wp2_with fail
    obtain ⟨iR, hiR, hzR0, hzR1, hzR2⟩ := info_parts (P := Try.prog) (e := 50) (z := .agg #[.int .i64 0, .int .i64 0]) (size := 2) (bytes := 16) (by kernel_rfl)
    have hrow : (W3.alloc (.cells #[.int .i64 (tabAt b.n b.t s.hi).top, .int .i64 (tabAt b.n b.t s.hi).under] 50)).ownsRow W3.heap.size 50 2 (.slice (some ⟨W3.heap.size, 0, none⟩) 1 1) (tabAt b.n b.t s.hi :: insL b.t s 0).length (pairsOf (tabAt b.n b.t s.hi :: insL b.t s 0)) :=
      ⟨rfl, .inr ⟨W3.heap.size, 1, _, rfl, Nat.le_refl _, World.alloc_heap_new _ _, by simp [insL], by decide, rfl, (pairsOf_one _).symm⟩⟩
    have HB4 := Lib.hid (HB3.out.old (.cells #[.int .i64 (tabAt b.n b.t s.hi).top, .int .i64 (tabAt b.n b.t s.hi).under] 50))
    have HS4 := Lib.hid (HS3.out.old (.cells #[.int .i64 (tabAt b.n b.t s.hi).top, .int .i64 (tabAt b.n b.t s.hi).under] 50))
    have hbw4 := hbw3.alloc hbw3.size (.cells #[.int .i64 (tabAt b.n b.t s.hi).top, .int .i64 (tabAt b.n b.t s.hi).under] 50)
    have hb4 := below_alloc1 W3 (.cells #[.int .i64 (tabAt b.n b.t s.hi).top, .int .i64 (tabAt b.n b.t s.hi).under] 50)
    have hn2 := HV.out.few
    obtain ⟨W4, hW4⟩ : ∃ X, X = W3.alloc (.cells #[.int .i64 (tabAt b.n b.t s.hi).top, .int .i64 (tabAt b.n b.t s.hi).under] 50) := ⟨_, rfl⟩
    rw [← hW4] at hrow HB4 HS4 hbw4 hb4 ⊢
    clear hW4 b0 b1 b2 b3 b4 b5 b6 b7 s0 s1 sl
    go_loopw [8, 9] (fun v8 v9 wr => ∃ k L : Nat, k ≤ b.n ∧ v9 = .int .i64 k ∧ L = (insL b.t s k).length + 1 ∧ wr.ownsRow W3.heap.size 50 2 v8 L (pairsOf (tabAt b.n b.t s.hi :: insL b.t s k)) ∧ Below W3.heap.size W4 wr) (fun _ i _ => b.n - (intOf i).toNat)
    case atStart => exact ⟨0, 1, Nat.zero_le _, rfl, rfl, hrow, Below.refl _ _⟩
    case round =>
      obtain ⟨k, L, hk, rfl, hL, hown, hbr⟩ := hrel
      have hbr2 : Below W3.heap.size W3 wr := hb4.trans hbr
      have hbw5 := hbw3.trans (hbr2.mono hbw3.size)
      have HB5 := Lib.hid (HB3.out.below hbr2)
      have HS5 := Lib.hid (HS3.out.below hbr2)
      obtain ⟨-, b1, -, -, -, -, -, b7⟩ := BB.cells (b := b) HB5.out
      have s0 := HS5.out.cell 0 rfl
      have s1 := HS5.out.cell 1 rfl
      have sl := HS5.out.lt
      have hlen := insL_length b.t s k
      have hlen2 : L ≤ 13 := by omega
      have HLN := Lib.hid hL
      clear hL hlen
      obtain ⟨oS, cS, rfl, -⟩ := owns_form hown
      by_cases hlt : k < b.n
      · obtain ⟨bb, off, rfl, hlt0, c0, c1⟩ := (HT.out.mono hbw5) k hlt
        have hkb : (k : Int) < (b.n : Int) := by omega
        by_cases hin : withinB (b.t k).at_ s.lo s.hi = true
        · have HIN := Lib.hid hin
          go_wp2_with fail
          go_big_quiet ((go_at_call 48; exact Calls.quiet_of_same (in_q _ _ _ _)))
          rw [hin]
          have b1q : (wr.drewN nq).cell? ⟨w.heap.size, 1, none⟩ = some (.slice (some ⟨bb, off, none⟩) b.n cap) := b1
          have c1q : (wr.drewN nq).cell? ⟨bb, off + k * 2 + 1, none⟩ = some (.int .i64 (b.t k).value) := c1
          have hownq : (wr.drewN nq).ownsRow W3.heap.size 50 2 (.slice oS L cS) L (pairsOf (tabAt b.n b.t s.hi :: insL b.t s k)) := hown
          have hbq := below_drewN hbr nq
          have hs5 := hbr2.size
          have hsq : wr.heap.size ≤ (wr.drewN nq).heap.size := Nat.le_refl _
          obtain ⟨wq, hwq⟩ : ∃ X, X = wr.drewN nq := ⟨_, rfl⟩
          rw [← hwq] at b1q c1q hownq hbq hsq ⊢
          clear hwq b1 c0 c1 hlt0 s0 s1 sl hown
          go_wp2_with (at_builtin; refine wpList_append_gen rfl (.tmp 42) (.tmp 50) _ rfl W3.heap.size 50 iR _ 2 16 Try.underlying106 hiR hzR0 hzR1 hzR2 rfl (by omega) (.slice oS L cS) L (pairsOf (tabAt b.n b.t s.hi :: insL b.t s k)) rfl (some ⟨wq.heap.size, 0, none⟩) 1 1 [.int .i64 (b.t k).value, .int .i64 1] rfl (hownq.alloc _) (fun e9 => by cases e9) rfl (fun ad9 e9 j9 u9 hu9 => by cases e9; exact news_blk2 (e := 50) (heap_new rfl) hu9) (by simp [Value.oneCell']) (by simp only [maxLen]; omega) (by omega) (by simp; omega) ?_; intro vS wS hownS hgrowS)
          go_roundw
          case rel => exact ⟨k + 1, L + 1, by omega, by go_num, by rw [insL_succ, if_pos HIN.out, HLN.out]; simp, by rw [insL_succ, if_pos HIN.out, ← List.cons_append, pairsOf_snoc]; exact hownS, hbq.trans ((below_alloc1 wq _).mono (by omega) |>.trans (below_row hownq hgrowS (by omega)))⟩
          case measure => simp [intOf]; omega
        · have HIN := Lib.hid hin
          replace hin : withinB (b.t k).at_ s.lo s.hi = false := by simpa using hin
          go_wp2_with fail
          go_big_quiet ((go_at_call 48; exact Calls.quiet_of_same (in_q _ _ _ _)))
          go_wp2_with fail
          go_roundw
          case rel => exact ⟨k + 1, L, by omega, by go_num, by rw [insL_succ, if_neg HIN.out]; exact HLN.out, by rw [insL_succ, if_neg HIN.out]; exact hown, below_drewN hbr nq⟩
          case measure => simp [intOf]; omega
      · obtain rfl : k = b.n := by omega
        have hs5 := hbr2.size
        have HL5 := Lib.hid (HL3.out.below hbr2)
        have HH5 := Lib.hid (HH3.out.below hbr2)
        have HG5 := Lib.hid (hG3.out.below hbr2)
        have HX5 := Lib.hid (hH3.out.below hbr2)
        have hkb : ¬ (b.n : Int) < (b.n : Int) := by omega
        have hDL : L = (densL b.n b.t s).length := HLN.out
        have hown' : wr.ownsRow W3.heap.size 50 2 (.slice oS L cS) L (pairNews L (fun i => (densF b.n b.t s i).top) (fun i => (densF b.n b.t s i).under)) := by
          rw [hDL] at hown ⊢
          exact hown
        obtain ⟨oS', cS', e9, hpa, hbs⟩ := owns_pairs hown'
        cases e9
        have HPA : Hid (FracsAt wr oS L (densF b.n b.t s)) := Lib.hid hpa
        have HDD := Lib.hid (show ∀ i, i < L → Dense (densF b.n b.t s i) by rw [hDL]; exact dens_dense HV.out h1 h2 h3)
        have HD0 := Lib.hid (at_dense HV.out h1 h4)
        have HDL := Lib.hid hDL
        have hg3 := hG3.out.lt
        have hh3 := hH3.out.lt
        clear hpa hDL hown hown' HB3 HS3 HB4 HS4 hrow hbw3 HLN iR hiR hzR0 hzR1 hzR2
        go_wp2_with fail
        clear hbr hbr2 hb4 HB5 HS5 b1 b7 s0 s1 sl
        obtain ⟨W5, hW5⟩ : ∃ X, X = wr := ⟨_, rfl⟩
        rw [← hW5] at HPA hbw5 HL5 HH5 HG5 HX5 hs5 ⊢
        clear hW5
        go_loopw [10] (fun v10 wx => ∃ j : Nat, j ≤ L ∧ v10 = .int .i64 j ∧ Two g h W5 wx ∧ Below w.heap.size w wx ∧ PC g (bestN Frac.lt (densF b.n b.t s) (tabAt b.n b.t s.lo) j) wx ∧ PC h (bestN (fun a b => Frac.lt b a) (densF b.n b.t s) (tabAt b.n b.t s.lo) j) wx) (fun i _ => L - (intOf i).toNat)
        case atStart => exact ⟨0, Nat.zero_le _, rfl, Two.refl _ _ _, hbw5, HG5.out, HX5.out⟩
        case round =>
          obtain ⟨j, hj, rfl, hTw, hBw, hPg, hPh⟩ := hrel
          by_cases hlt2 : j < L
          · obtain ⟨bS, oF, rfl, hlt9, f0, f1⟩ := HPA.out j hlt2
            have hne := hbs _ rfl
            dsimp only at hne
            have n1 : bS ≠ g := by omega
            have n2 : bS ≠ h := by omega
            have DT := bestN_dense (better := Frac.lt) HD0.out (k := j) (fun i hi => HDD.out i (by omega))
            have DK := bestN_dense (better := fun a b => Frac.lt b a) HD0.out (k := j) (fun i hi => HDD.out i (by omega))
            have DD := HDD.out j hlt2
            have eT : bestN Frac.lt (densF b.n b.t s) (tabAt b.n b.t s.lo) (j + 1) = if (densF b.n b.t s j).lt (bestN Frac.lt (densF b.n b.t s) (tabAt b.n b.t s.lo) j) then densF b.n b.t s j else bestN Frac.lt (densF b.n b.t s) (tabAt b.n b.t s.lo) j := rfl
            have eK : bestN (fun a b => Frac.lt b a) (densF b.n b.t s) (tabAt b.n b.t s.lo) (j + 1) = if (bestN (fun a b => Frac.lt b a) (densF b.n b.t s) (tabAt b.n b.t s.lo) j).lt (densF b.n b.t s j) then densF b.n b.t s j else bestN (fun a b => Frac.lt b a) (densF b.n b.t s) (tabAt b.n b.t s.lo) j := rfl
            obtain ⟨fD, hfD⟩ : ∃ f, f = densF b.n b.t s j := ⟨_, rfl⟩
            obtain ⟨fT, hfT⟩ : ∃ f, f = bestN Frac.lt (densF b.n b.t s) (tabAt b.n b.t s.lo) j := ⟨_, rfl⟩
            obtain ⟨fK, hfK⟩ : ∃ f, f = bestN (fun a b => Frac.lt b a) (densF b.n b.t s) (tabAt b.n b.t s.lo) j := ⟨_, rfl⟩
            rw [← hfD] at f0 f1 DD eT eK
            rw [← hfT] at hPg DT eT
            rw [← hfK] at hPh DK eK
            have ET := Lib.hid eT
            have EK := Lib.hid eK
            have DT2 := Lib.hid DT
            have DK2 := Lib.hid DK
            have DD2 := Lib.hid DD
            clear eT eK hfD hfT hfK DT DK DD
            have hjL : (j : Int) < (L : Int) := by omega
            have u0 := hTw.cell f0 hlt9 n1 n2
            have u1 := hTw.cell f1 hlt9 n1 n2
            have hs9 := hTw.size
            have w0 : ∀ W : Aft wr, W.val.cell? ⟨bS, oF + j * 2, none⟩ = some (.int .i64 fD.top) := fun W => (W.below.cell (p := ⟨bS, oF + j * 2, none⟩) (by dsimp only; omega)).trans u0
            have w1 : ∀ W : Aft wr, W.val.cell? ⟨bS, oF + j * 2 + 1, none⟩ = some (.int .i64 fD.under) := fun W => (W.below.cell (p := ⟨bS, oF + j * 2 + 1, none⟩) (by dsimp only; omega)).trans u1
            have w2 : ∀ W : Aft wr, W.val.cell? ⟨g, 0, none⟩ = some (.int .i64 fT.top) := fun W => (hPg.below W.below).c0
            have w3 : ∀ W : Aft wr, W.val.cell? ⟨g, 1, none⟩ = some (.int .i64 fT.under) := fun W => (hPg.below W.below).c1
            rcases c1 : fD.lt fT
            · have HC := Lib.hid (show ∀ W : Aft wr, Calls Try.prog 30 #[fD.val, fT.val] W.val fun e w' => e = .returned (.bool false) ∧ Below W.val.heap.size W.val w' from fun W => by have := lessD_any fD fT W.val DD2.out DT2.out; rw [c1] at this; exact this)
              go_wp2_with fail
              refine wp_region_aft (by kernel_rfl) (by kernel_rfl) ?_
              repeat (go_big_quiet_step ((go_at_call 30; exact aft_call (HC.out _))))
              refine wpQuiet_nil ?_
              rintro ⟨wy, hby⟩
              have hTz := hTw.below hby
              have hBz := hBw.trans (hby.mono hBw.size)
              have hPgz := hPg.below hby
              have hPhz := hPh.below hby
              have E1 := Lib.hid (show bestN Frac.lt (densF b.n b.t s) (tabAt b.n b.t s.lo) (j + 1) = fT by rw [ET.out, if_neg (by rw [c1]; simp)])
              clear w0 w1 w2 w3 u0 u1 hs9
              go_wp2_with fail
              obtain ⟨wz, hwz⟩ : ∃ X, X = wy := ⟨_, rfl⟩
              rw [← hwz] at hTz hBz hPgz hPhz ⊢
              clear hwz hby
              have u0 := hTz.cell f0 hlt9 n1 n2
              have u1 := hTz.cell f1 hlt9 n1 n2
              have hs9 := hTz.size
              have w0 : ∀ W : Aft wz, W.val.cell? ⟨bS, oF + j * 2, none⟩ = some (.int .i64 fD.top) := fun W => (W.below.cell (p := ⟨bS, oF + j * 2, none⟩) (by dsimp only; omega)).trans u0
              have w1 : ∀ W : Aft wz, W.val.cell? ⟨bS, oF + j * 2 + 1, none⟩ = some (.int .i64 fD.under) := fun W => (W.below.cell (p := ⟨bS, oF + j * 2 + 1, none⟩) (by dsimp only; omega)).trans u1
              have w2 : ∀ W : Aft wz, W.val.cell? ⟨h, 0, none⟩ = some (.int .i64 fK.top) := fun W => (hPhz.below W.below).c0
              have w3 : ∀ W : Aft wz, W.val.cell? ⟨h, 1, none⟩ = some (.int .i64 fK.under) := fun W => (hPhz.below W.below).c1
              rcases c2 : fK.lt fD
              · have HC := Lib.hid (show ∀ W : Aft wz, Calls Try.prog 30 #[fK.val, fD.val] W.val fun e w' => e = .returned (.bool false) ∧ Below W.val.heap.size W.val w' from fun W => by have := lessD_any fK fD W.val DK2.out DD2.out; rw [c2] at this; exact this)
                go_wp2_with fail
                refine wp_region_aft (by kernel_rfl) (by kernel_rfl) ?_
                repeat (go_big_quiet_step ((go_at_call 30; exact aft_call (HC.out _))))
                refine wpQuiet_nil ?_
                rintro ⟨wq, hbq⟩
                go_wp2_with fail
                go_roundw
                case rel => exact ⟨j + 1, by omega, by go_num, hTz.below hbq, hBz.trans (hbq.mono hBz.size), by rw [E1.out]; exact hPgz.below hbq, by rw [EK.out, if_neg (by rw [c2]; simp)]; exact hPhz.below hbq⟩
                case measure => simp [intOf]; omega
              · have HC := Lib.hid (show ∀ W : Aft wz, Calls Try.prog 30 #[fK.val, fD.val] W.val fun e w' => e = .returned (.bool true) ∧ Below W.val.heap.size W.val w' from fun W => by have := lessD_any fK fD W.val DK2.out DD2.out; rw [c2] at this; exact this)
                go_wp2_with fail
                refine wp_region_aft (by kernel_rfl) (by kernel_rfl) ?_
                repeat (go_big_quiet_step ((go_at_call 30; exact aft_call (HC.out _))))
                refine wpQuiet_nil ?_
                rintro ⟨wq, hbq⟩
                have x0 := w0 ⟨wq, hbq⟩
                have x1 := w1 ⟨wq, hbq⟩
                dsimp only at x0 x1
                have hq := hPhz.below hbq
                have q0 := hq.c0
                have q1 := hq.c1
                have q2 := hq.z0
                have q3 := hq.z1
                clear w0 w1 w2 w3
                go_wp2_with fail
                go_roundw
                case rel => exact ⟨j + 1, by omega, by go_num, ((hTz.below hbq).setQ).setQ, ((hBz.trans (hbq.mono hBz.size)).setCell (by dsimp only; omega) _).setCell (by dsimp only; omega) _, by rw [E1.out]; exact ((hPgz.below hbq).other hgh).other hgh, by rw [EK.out, if_pos c2]; exact hq.set fD⟩
                case measure => simp [intOf]; omega
            · have HC := Lib.hid (show ∀ W : Aft wr, Calls Try.prog 30 #[fD.val, fT.val] W.val fun e w' => e = .returned (.bool true) ∧ Below W.val.heap.size W.val w' from fun W => by have := lessD_any fD fT W.val DD2.out DT2.out; rw [c1] at this; exact this)
              go_wp2_with fail
              refine wp_region_aft (by kernel_rfl) (by kernel_rfl) ?_
              repeat (go_big_quiet_step ((go_at_call 30; exact aft_call (HC.out _))))
              refine wpQuiet_nil ?_
              rintro ⟨wy, hby⟩
              have x0 := w0 ⟨wy, hby⟩
              have x1 := w1 ⟨wy, hby⟩
              dsimp only at x0 x1
              have hq := hPg.below hby
              have q0 := hq.c0
              have q1 := hq.c1
              have q2 := hq.z0
              have q3 := hq.z1
              have hTz := ((hTw.below hby).setP (i := 0) (v := .int .i64 fD.top)).setP (i := 1) (v := .int .i64 fD.under)
              have hBz := ((hBw.trans (hby.mono hBw.size)).setCell (p := ⟨g, 0, none⟩) (by dsimp only; omega) (.int .i64 fD.top)).setCell (p := ⟨g, 1, none⟩) (by dsimp only; omega) (.int .i64 fD.under)
              have hPgz := hq.set fD
              have hPhz := ((hPh.below hby).other (k := g) (i := 0) (v := .int .i64 fD.top) (Ne.symm hgh)).other (k := g) (i := 1) (v := .int .i64 fD.under) (Ne.symm hgh)
              have E1 := Lib.hid (show bestN Frac.lt (densF b.n b.t s) (tabAt b.n b.t s.lo) (j + 1) = fD by rw [ET.out, if_pos c1])
              clear w0 w1 w2 w3 u0 u1 hs9
              go_upto_region 13 with fail
              clear x0 x1 hq q0 q1 q2 q3
              obtain ⟨wz, hwz⟩ : ∃ X, X = (wy.setCell ⟨g, 0, none⟩ (.int .i64 fD.top)).setCell ⟨g, 1, none⟩ (.int .i64 fD.under) := ⟨_, rfl⟩
              rw [← hwz] at hTz hBz hPgz hPhz ⊢
              clear hwz hby
              have u0 := hTz.cell f0 hlt9 n1 n2
              have u1 := hTz.cell f1 hlt9 n1 n2
              have hs9 := hTz.size
              have w0 : ∀ W : Aft wz, W.val.cell? ⟨bS, oF + j * 2, none⟩ = some (.int .i64 fD.top) := fun W => (W.below.cell (p := ⟨bS, oF + j * 2, none⟩) (by dsimp only; omega)).trans u0
              have w1 : ∀ W : Aft wz, W.val.cell? ⟨bS, oF + j * 2 + 1, none⟩ = some (.int .i64 fD.under) := fun W => (W.below.cell (p := ⟨bS, oF + j * 2 + 1, none⟩) (by dsimp only; omega)).trans u1
              have w2 : ∀ W : Aft wz, W.val.cell? ⟨h, 0, none⟩ = some (.int .i64 fK.top) := fun W => (hPhz.below W.below).c0
              have w3 : ∀ W : Aft wz, W.val.cell? ⟨h, 1, none⟩ = some (.int .i64 fK.under) := fun W => (hPhz.below W.below).c1
              rcases c2 : fK.lt fD
              · have HC := Lib.hid (show ∀ W : Aft wz, Calls Try.prog 30 #[fK.val, fD.val] W.val fun e w' => e = .returned (.bool false) ∧ Below W.val.heap.size W.val w' from fun W => by have := lessD_any fK fD W.val DK2.out DD2.out; rw [c2] at this; exact this)
                go_wp2_with fail
                refine wp_region_aft (by kernel_rfl) (by kernel_rfl) ?_
                repeat (go_big_quiet_step ((go_at_call 30; exact aft_call (HC.out _))))
                refine wpQuiet_nil ?_
                rintro ⟨wq, hbq⟩
                go_wp2_with fail
                go_roundw
                case rel => exact ⟨j + 1, by omega, by go_num, hTz.below hbq, hBz.trans (hbq.mono hBz.size), by rw [E1.out]; exact hPgz.below hbq, by rw [EK.out, if_neg (by rw [c2]; simp)]; exact hPhz.below hbq⟩
                case measure => simp [intOf]; omega
              · have HC := Lib.hid (show ∀ W : Aft wz, Calls Try.prog 30 #[fK.val, fD.val] W.val fun e w' => e = .returned (.bool true) ∧ Below W.val.heap.size W.val w' from fun W => by have := lessD_any fK fD W.val DK2.out DD2.out; rw [c2] at this; exact this)
                go_wp2_with fail
                refine wp_region_aft (by kernel_rfl) (by kernel_rfl) ?_
                repeat (go_big_quiet_step ((go_at_call 30; exact aft_call (HC.out _))))
                refine wpQuiet_nil ?_
                rintro ⟨wq, hbq⟩
                have x0 := w0 ⟨wq, hbq⟩
                have x1 := w1 ⟨wq, hbq⟩
                dsimp only at x0 x1
                have hq := hPhz.below hbq
                have q0 := hq.c0
                have q1 := hq.c1
                have q2 := hq.z0
                have q3 := hq.z1
                clear w0 w1 w2 w3
                go_wp2_with fail
                go_roundw
                case rel => exact ⟨j + 1, by omega, by go_num, ((hTz.below hbq).setQ).setQ, ((hBz.trans (hbq.mono hBz.size)).setCell (by dsimp only; omega) _).setCell (by dsimp only; omega) _, by rw [E1.out]; exact ((hPgz.below hbq).other hgh).other hgh, by rw [EK.out, if_pos c2]; exact hq.set fD⟩
                case measure => simp [intOf]; omega
          · obtain rfl : j = L := by omega
            have HL9 := Lib.hid (hTw.box HL5.out (by omega) (by omega))
            have HH9 := Lib.hid (hTw.box HH5.out (by omega) (by omega))
            have g0 := hPg.c0
            have g1 := hPg.c1
            have g2 := hPh.c0
            have g3 := hPh.c1
            have l0 := HL9.out.cell 0 rfl
            have l1 := HL9.out.cell 1 rfl
            have l2 := HL9.out.frozen 0
            have l3 := HL9.out.frozen 1
            have k0 := HH9.out.cell 0 rfl
            have k1 := HH9.out.cell 1 rfl
            have k2 := HH9.out.frozen 0
            have k3 := HH9.out.frozen 1
            obtain ⟨fT, hfT⟩ : ∃ f, f = bestN Frac.lt (densF b.n b.t s) (tabAt b.n b.t s.lo) j := ⟨_, rfl⟩
            obtain ⟨fK, hfK⟩ : ∃ f, f = bestN (fun a b => Frac.lt b a) (densF b.n b.t s) (tabAt b.n b.t s.lo) j := ⟨_, rfl⟩
            rw [← hfT] at g0 g1
            rw [← hfK] at g2 g3
            have FT := Lib.hid hfT
            have FK := Lib.hid hfK
            clear hfT hfK hPg hPh
            go_wp2_with fail
            go_region
            all_goals
              go_wp2_with fail
              first
                | (have pq := put4 HL9.out HH9.out (by omega) (.int .i64 fT.top) (.int .i64 fT.under) (.int .i64 fK.top) (.int .i64 fK.under)
                   refine bodyPost_ret (v := .tuple #[.agg #[.int .i64 fT.top, .int .i64 fT.under], .agg #[.int .i64 fK.top, .int .i64 fK.under]]) (by simp [results, Try.results56, go_sem, pq.1, pq.2.1, pq.2.2.1, pq.2.2.2]) rfl ⟨by rw [← HDL.out, FT.out, FK.out], (by repeat' (first | exact Below.refl _ _ | assumption | apply below_drewN | apply Below.drew | (refine Below.alloc ?_ ?_ _) | (refine Below.setCell ?_ ?_ _) | (simp; done) | (simp; omega) | omega))⟩)
                | (have pq := put4 HH9.out HL9.out (by omega) (.int .i64 fK.top) (.int .i64 fK.under) (.int .i64 fT.top) (.int .i64 fT.under)
                   refine bodyPost_ret (v := .tuple #[.agg #[.int .i64 fT.top, .int .i64 fT.under], .agg #[.int .i64 fK.top, .int .i64 fK.under]]) (by simp [results, Try.results56, go_sem, pq.1, pq.2.1, pq.2.2.1, pq.2.2.2]) rfl ⟨by rw [← HDL.out, FT.out, FK.out], (by repeat' (first | exact Below.refl _ _ | assumption | apply below_drewN | apply Below.drew | (refine Below.alloc ?_ ?_ _) | (refine Below.setCell ?_ ?_ _) | (simp; done) | (simp; omega) | omega))⟩)
end Go.Proofs.Ythoefcpeagclbaa
