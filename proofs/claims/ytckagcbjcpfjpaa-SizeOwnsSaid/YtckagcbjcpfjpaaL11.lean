/- The walk of SizeOwns, given what alive comes to. -/
import Derived.Test.YtckagcbjcpfjpaaApp
import Derived.Test.YtckagcbjcpfjpaaL9
import Derived.Deep.DeepCutAuto
namespace Go.Proofs.Ytckagcbjcpfjpaa
open Go.RowKit
set_option maxRecDepth 100000 in
set_option maxHeartbeats 4000000 in
theorem owns_of (halive : ∀ w, Calls Try.prog 13 #[] w (TrueEnd w)) (h : House) (loss : Int) (ta ra oa : Option Addr) (tc rc n cap : Nat) (t : Nat → Meter) (w : World) (hT : TapsAt w ta h.nt h.t) (hR : RulesAt w ra h.nr h.r) (hM : MetersAt w oa n t) (hnT : ta = none → h.nt = 0 ∧ tc = 0) (hnR : ra = none → h.nr = 0 ∧ rc = 0) (hnM : oa = none → n = 0 ∧ cap = 0) :
    Calls Try.prog 11 #[houseV h ta ra tc rc, .slice oa n cap, .int .i64 loss] w (TrueEnd w) := by
  have HA := Lib.hid halive
  have HT := Lib.hid hT
  have HR := Lib.hid hR
  have HM := Lib.hid hM
  clear halive hT hR hM
  go_enter Try.func11, Try.ntmps11
  go_wp2_with fail
  refine (great_any h 7 ta ra tc rc _).mono ?_
  rintro e w1 ⟨rfl, hb1⟩
  have KH := Lib.hid ((HB.new h ta ra tc rc w).below hb1)
  have hbw : Below w.heap.size w w1 := Below.trans (by repeat' (first | exact Below.refl _ _ | assumption | apply below_drewN | apply Below.drew | (refine Below.alloc ?_ ?_ _) | (refine Below.setCell ?_ ?_ _) | (simp; done) | (simp; omega) | omega)) (hb1.mono (by simp))
  clear hb1
  by_cases hg : greatB h.nt h.nr 7 = true
  · rw [hg]
    go_wp2_with fail
    refine (HA.out _).mono ?_
    rintro e wz ⟨rfl, hbz⟩
    go_wp2
    go_ret
    exact ⟨rfl, hbw.trans (hbz.mono hbw.size)⟩
  · replace hg : greatB h.nt h.nr 7 = false := by simpa using hg
    have g1 : h.nt ≤ 1000000 := by have := great_no hg; omega
    have g2 : h.nr ≤ 1000000 := by have := great_no hg; omega
    have HG16 := Lib.hid (great_no hg)
    rw [hg]
    clear hg
    obtain ⟨a0, a1, a2, a3, als⟩ := KH.out
    by_cases hn : (18 : Int) < (n : Int)
    · skip
      go_wp2_with fail
      refine (HA.out _).mono ?_
      rintro e wz ⟨rfl, hbz⟩
      go_wp2
      go_ret
      exact ⟨rfl, hbw.trans (hbz.mono hbw.size)⟩
    · have g3 : n ≤ 1000000 := by omega
      have hnt16 : h.nt ≤ 16 ∧ h.nr ≤ 14 := HG16.out
      obtain ⟨iT, hiT, hzT0, hzT1, hzT2⟩ := info_parts (P := Try.prog) (e := 52) (z := .agg #[.int .i64 0, .int .i64 0, .int .i64 0]) (size := 3) (bytes := 24) (by kernel_rfl)
      obtain ⟨iR, hiR, hzR0, hzR1, hzR2⟩ := info_parts (P := Try.prog) (e := 65) (z := .agg #[.int .i64 0, .int .i64 0]) (size := 2) (bytes := 16) (by kernel_rfl)
      obtain ⟨iM, hiM, hzM0, hzM1, hzM2⟩ := info_parts (P := Try.prog) (e := 27) (z := .agg #[.int .i64 0, .int .i64 0, .int .i64 0, .int .i64 0]) (size := 4) (bytes := 32) (by kernel_rfl)
      go_wp2_with fail
      have hk1 : ¬ w.heap.size = w1.heap.size := by omega
      have hk2 : ¬ w.heap.size = w1.heap.size + 1 := by omega
      have hk3 : ¬ w.heap.size = w1.heap.size + 1 + 1 := by omega
      have hk4 : w.heap.size < w1.heap.size + 1 := by omega
      have hk5 : w.heap.size < w1.heap.size + 1 + 1 := by omega
      go_cut [7, 8, 9] (fun s7 s8 s9 wx => Below w1.heap.size w1 wx ∧ wx.ownsRow w1.heap.size 52 3 s7 h.nt (tapNews h.nt h.t) ∧ wx.ownsRow w1.heap.size 65 2 s8 h.nr (ruleNews h.nr h.r) ∧ wx.ownsRow w1.heap.size 27 4 s9 n (meterNews n t))
      case first =>
        go_region_held3 (fun w' => w'.cell? ⟨w.heap.size, 2, none⟩ = some (.slice ta h.nt tc) ∧ w'.cell? ⟨w.heap.size, 3, none⟩ = some (.slice ra h.nr rc)) ((refine ⟨Eq.trans (Below.cell (B := w1.heap.size) ?_ (p := ⟨w.heap.size, 2, none⟩) KH.out.ls) KH.out.a2, Eq.trans (Below.cell (B := w1.heap.size) ?_ (p := ⟨w.heap.size, 3, none⟩) KH.out.ls) KH.out.a3⟩ <;> exact (by repeat' (first | assumption | exact Below.refl _ _ | apply Below.drew | (refine Below.alloc ?_ (by first | omega | (simp; done) | (simp; omega)) _))))) (first | ((refine step_append_new (by rfl) _ _ _ (by rfl) w1.heap.size 52 iT _ 3 24 Try.underlying22 hiT hzT0 hzT1 hzT2 rfl (by omega) _ (by rfl) ta h.nt tc (tapNews h.nt h.t) (by rfl) (by refine owns_empty (by first | omega | (simp; done) | (simp; omega)) ?_; repeat' (first | exact heap_new (by first | omega | (simp; done) | (simp; omega)) | (refine heap_old (by first | omega | (simp; done) | (simp; omega)) ?_))) hnT (by simp [tapNews]) (taps_news ((HT.out.mono hbw).mono (by repeat' (first | assumption | exact Below.refl _ _ | apply Below.drew | (refine Below.alloc ?_ (by first | omega | (simp; done) | (simp; omega)) _))))) news_one (by simp only [maxLen]; omega) (by omega) (by first | omega | (simp; done) | (simp; omega)) ?_; intro vT wT hownT hgrowT; have hsT := hgrowT.size; (try simp at hsT); have hbT := below_grown (w1 := w1) (e := 52) (size := 3) (n := 0) (xs := []) (by repeat' (first | assumption | exact Below.refl _ _ | apply Below.drew | (refine Below.alloc ?_ (by first | omega | (simp; done) | (simp; omega)) _))) (by refine owns_empty (by first | omega | (simp; done) | (simp; omega)) ?_; repeat' (first | exact heap_new (by first | omega | (simp; done) | (simp; omega)) | (refine heap_old (by first | omega | (simp; done) | (simp; omega)) ?_))) hgrowT; have hxT := hbT.size)) | ((refine step_append_new (by rfl) _ _ _ (by rfl) w1.heap.size 65 iR _ 2 16 Try.underlying23 hiR hzR0 hzR1 hzR2 rfl (by omega) _ (by rfl) ra h.nr rc (ruleNews h.nr h.r) (by rfl) (by refine owns_empty (by first | omega | (simp; done) | (simp; omega)) ?_; repeat' (first | exact heap_new (by first | omega | (simp; done) | (simp; omega)) | (refine heap_old (by first | omega | (simp; done) | (simp; omega)) ?_) | (refine heap_grown hgrowT (by first | omega | (simp; done) | (simp; omega)) (by simp [Value.ownBlock] <;> omega) ?_))) hnR (by simp [ruleNews]) (rules_news ((HR.out.mono hbw).mono (by repeat' (first | assumption | exact Below.refl _ _ | apply Below.drew | (refine Below.alloc ?_ (by first | omega | (simp; done) | (simp; omega)) _))))) news_one (by simp only [maxLen]; omega) (by omega) (by first | omega | (simp; done) | (simp; omega)) ?_; intro vR wR hownR hgrowR; have hsR := hgrowR.size; (try simp at hsR); have hbR := below_grown (w1 := w1) (e := 65) (size := 2) (n := 0) (xs := []) (by repeat' (first | assumption | exact Below.refl _ _ | apply Below.drew | (refine Below.alloc ?_ (by first | omega | (simp; done) | (simp; omega)) _))) (by refine owns_empty (by first | omega | (simp; done) | (simp; omega)) ?_; repeat' (first | exact heap_new (by first | omega | (simp; done) | (simp; omega)) | (refine heap_old (by first | omega | (simp; done) | (simp; omega)) ?_) | (refine heap_grown hgrowT (by first | omega | (simp; done) | (simp; omega)) (by simp [Value.ownBlock] <;> omega) ?_))) hgrowR; have hxR := hbR.size; have hT2 := owns_other (base := w1.heap.size) (e1 := 65) (s1 := 2) (n1 := 0) (xs1 := []) (by refine owns_empty (by first | omega | (simp; done) | (simp; omega)) ?_; repeat' (first | exact heap_new (by first | omega | (simp; done) | (simp; omega)) | (refine heap_old (by first | omega | (simp; done) | (simp; omega)) ?_) | (refine heap_grown hgrowT (by first | omega | (simp; done) | (simp; omega)) (by simp [Value.ownBlock] <;> omega) ?_))) (by first | exact hownT | exact (hownT).alloc _ | exact ((hownT).alloc _).alloc _) (by decide) hgrowR)) | ((refine step_append_new (by rfl) _ _ _ (by rfl) w1.heap.size 27 iM _ 4 32 Try.underlying38 hiM hzM0 hzM1 hzM2 rfl (by omega) _ (by rfl) oa n cap (meterNews n t) (by rfl) (by refine owns_empty (by first | omega | (simp; done) | (simp; omega)) ?_; repeat' (first | exact heap_new (by first | omega | (simp; done) | (simp; omega)) | (refine heap_old (by first | omega | (simp; done) | (simp; omega)) ?_) | (refine heap_grown hgrowR (by first | omega | (simp; done) | (simp; omega)) (by simp [Value.ownBlock] <;> omega) ?_) | (refine heap_grown hgrowT (by first | omega | (simp; done) | (simp; omega)) (by simp [Value.ownBlock] <;> omega) ?_))) hnM (by simp [meterNews]) (meters_news ((HM.out.mono hbw).mono (by repeat' (first | assumption | exact Below.refl _ _ | apply Below.drew | (refine Below.alloc ?_ (by first | omega | (simp; done) | (simp; omega)) _))))) news_one (by simp only [maxLen]; omega) (by omega) (by first | omega | (simp; done) | (simp; omega)) ?_; intro vM wM hownM hgrowM; have hsM := hgrowM.size; (try simp at hsM); have hbM := below_grown (w1 := w1) (e := 27) (size := 4) (n := 0) (xs := []) (by repeat' (first | assumption | exact Below.refl _ _ | apply Below.drew | (refine Below.alloc ?_ (by first | omega | (simp; done) | (simp; omega)) _))) (by refine owns_empty (by first | omega | (simp; done) | (simp; omega)) ?_; repeat' (first | exact heap_new (by first | omega | (simp; done) | (simp; omega)) | (refine heap_old (by first | omega | (simp; done) | (simp; omega)) ?_) | (refine heap_grown hgrowR (by first | omega | (simp; done) | (simp; omega)) (by simp [Value.ownBlock] <;> omega) ?_) | (refine heap_grown hgrowT (by first | omega | (simp; done) | (simp; omega)) (by simp [Value.ownBlock] <;> omega) ?_))) hgrowM; have hT3 := owns_other (base := w1.heap.size) (e1 := 27) (s1 := 4) (n1 := 0) (xs1 := []) (by refine owns_empty (by first | omega | (simp; done) | (simp; omega)) ?_; repeat' (first | exact heap_new (by first | omega | (simp; done) | (simp; omega)) | (refine heap_old (by first | omega | (simp; done) | (simp; omega)) ?_) | (refine heap_grown hgrowR (by first | omega | (simp; done) | (simp; omega)) (by simp [Value.ownBlock] <;> omega) ?_) | (refine heap_grown hgrowT (by first | omega | (simp; done) | (simp; omega)) (by simp [Value.ownBlock] <;> omega) ?_))) (by first | exact hT2 | exact (hT2).alloc _ | exact ((hT2).alloc _).alloc _) (by decide) hgrowM; have hR3 := owns_other (base := w1.heap.size) (e1 := 27) (s1 := 4) (n1 := 0) (xs1 := []) (by refine owns_empty (by first | omega | (simp; done) | (simp; omega)) ?_; repeat' (first | exact heap_new (by first | omega | (simp; done) | (simp; omega)) | (refine heap_old (by first | omega | (simp; done) | (simp; omega)) ?_) | (refine heap_grown hgrowR (by first | omega | (simp; done) | (simp; omega)) (by simp [Value.ownBlock] <;> omega) ?_) | (refine heap_grown hgrowT (by first | omega | (simp; done) | (simp; omega)) (by simp [Value.ownBlock] <;> omega) ?_))) (by first | exact hownR | exact (hownR).alloc _ | exact ((hownR).alloc _).alloc _) (by decide) hgrowM)))
        all_goals
          go_wp2_with fail
          go_meet
          exact ⟨hbM, hT3, hR3, hownM⟩
      case rest =>
        obtain ⟨hbx, hoT, hoR, hoM⟩ := hcut
        obtain ⟨xa, xc, rfl, hXT⟩ := owns_taps hoT
        obtain ⟨ya, yc, rfl, hXR⟩ := owns_rules hoR
        obtain ⟨za, zc, rfl, hXM⟩ := owns_meters hoM
        have XT := Lib.hid hXT
        have XR := Lib.hid hXR
        have XM := Lib.hid hXM
        have KH1 := Lib.hid (KH.out.below hbx)
        have hbw1 := hbw.trans (hbx.mono hbw.size)
        clear hoT hoR hoM hXT hXR hXM hbx a0 a1 a2 a3 als hk1 hk2 hk3 hk4 hk5 hiT hzT0 hzT1 hzT2 hiR hzR0 hzR1 hzR2 hiM hzM0 hzM1 hzM2
        obtain ⟨a0, a1, a2, a3, als⟩ := KH1.out
        go_wp2_with fail
        refine (peak_all h ta ra tc rc _ g1 g2 (HT.out.mono hbw1) (HR.out.mono hbw1)).mono ?_
        rintro e w2 ⟨rfl, hb2⟩
        have KH2 := Lib.hid (KH1.out.below hb2)
        have hbw2 := hbw1.trans (hb2.mono hbw1.size)
        clear a0 a1 a2 a3 als
        obtain ⟨a0, a1, a2, a3, als⟩ := KH2.out
        go_wp2_with fail
        refine (Choose_any h ta ra oa tc rc n cap t _ g1 g2 g3 (HT.out.mono hbw2) (HR.out.mono hbw2) (HM.out.mono hbw2)).mono ?_
        rintro e w3 ⟨rfl, hb3⟩
        have KH3 := Lib.hid (KH2.out.below hb3)
        have hbw3 := hbw2.trans (hb3.mono hbw2.size)
        have hbv3 := hb2.trans (hb3.mono hb2.size)
        clear a0 a1 a2 a3 als hb3
        obtain ⟨a0, a1, a2, a3, als⟩ := KH3.out
        go_wp2_with fail
        refine (Pair_any h ta ra oa tc rc n cap t _ g1 g2 g3 (HT.out.mono hbw3) (HR.out.mono hbw3) (HM.out.mono hbw3)).mono ?_
        rintro e w4 ⟨rfl, hb4⟩
        have KH4 := Lib.hid (KH3.out.below hb4)
        have hbw4 := hbw3.trans (hb4.mono hbw3.size)
        have hbv4 := hbv3.trans (hb4.mono hbv3.size)
        clear a0 a1 a2 a3 als hb4
        obtain ⟨a0, a1, a2, a3, als⟩ := KH4.out
        go_wp2_with fail
        refine (Least_any h loss ta ra tc rc _ g1 g2 (HT.out.mono hbw4) (HR.out.mono hbw4)).mono ?_
        rintro e w5 ⟨r5, c5, rfl, hb5, -⟩
        have KH5 := Lib.hid (KH4.out.below hb5)
        have hbw5 := hbw4.trans (hb5.mono hbw4.size)
        have hbv5 := hbv4.trans (hb5.mono hbv4.size)
        clear a0 a1 a2 a3 als hb5 hb2
        go_upto_if 45 with fail
        go_cut [46] (fun s46 wx => Below w5.heap.size w5 wx)
        case first =>
          by_cases hn0 : n = 0
          · have hn1 : ¬ (0 : Int) < (n : Int) := by omega
            clear hn0
            go_wp2_with fail
            go_meet
            exact Below.refl _ _
          · have hn1 : (0 : Int) < (n : Int) := by omega
            obtain ⟨b, off, rfl, hlt0, m0, m1, m2, m3⟩ := (HM.out.mono hbw5) 0 (by omega)
            simp only [Nat.zero_mul, Nat.add_zero] at m0 m1 m2 m3
            have r0 : ∀ W : Aft w5, W.val.cell? ⟨b, off, none⟩ = some (.int .i64 (t 0).start) := fun W => (W.below.cell hlt0).trans m0
            have r1 : ∀ W : Aft w5, W.val.cell? ⟨b, off + 1, none⟩ = some (.int .i64 (t 0).full) := fun W => (W.below.cell hlt0).trans m1
            have r2 : ∀ W : Aft w5, W.val.cell? ⟨b, off + 2, none⟩ = some (.int .i64 (t 0).loss) := fun W => (W.below.cell hlt0).trans m2
            have r3 : ∀ W : Aft w5, W.val.cell? ⟨b, off + 3, none⟩ = some (.int .i64 (t 0).price) := fun W => (W.below.cell hlt0).trans m3
            have r4 : ∀ W : Aft w5, W.val.cell? ⟨w.heap.size, 0, none⟩ = some (.int .i64 h.head) := fun W => (KH5.out.below W.below).a0
            have r5 : ∀ W : Aft w5, W.val.cell? ⟨w.heap.size, 1, none⟩ = some (.int .i64 h.drip) := fun W => (KH5.out.below W.below).a1
            have r6 : ∀ W : Aft w5, W.val.cell? ⟨w.heap.size, 2, none⟩ = some (.slice ta h.nt tc) := fun W => (KH5.out.below W.below).a2
            have r7 : ∀ W : Aft w5, W.val.cell? ⟨w.heap.size, 3, none⟩ = some (.slice ra h.nr rc) := fun W => (KH5.out.below W.below).a3
            have hc : ∀ W : Aft w5, Calls Try.prog 16 #[.agg #[.int .i64 h.head, .int .i64 h.drip, .slice ta h.nt tc, .slice ra h.nr rc], .agg #[.int .i64 (t 0).start, .int .i64 (t 0).full, .int .i64 (t 0).loss, .int .i64 (t 0).price]] W.val fun e w' => e = .returned (.tuple #[.int .i64 ((h.starvedR (t 0)).1 : Nat), .bool (h.starvedR (t 0)).2.1, .int .i64 ((h.starvedR (t 0)).2.2 : Nat)]) ∧ Below W.val.heap.size W.val w' :=
              fun W => Starved_any h (t 0) ta ra tc rc _ g1 g2 (HT.out.mono (hbw5.trans (W.below.mono hbw5.size))) (HR.out.mono (hbw5.trans (W.below.mono hbw5.size)))
            have HC := Lib.hid hc
            have hn2 : decide (0 < n) = true := by simp; omega
            clear hn0 m0 m1 m2 m3 hc
            go_wp2_with fail
            refine wp_region_aft (by kernel_rfl) (by kernel_rfl) ?_
            repeat (go_big_quiet_step ((go_at_call 16; exact aft_call (HC.out _))))
            refine wpQuiet_nil ?_
            rintro ⟨w6, hb6⟩
            go_wp2_with fail
            go_meet
            exact hb6
        case rest =>
          have hb6 := hcut
          have KH6 := Lib.hid (KH5.out.below hb6)
          have hbw6 := hbw5.trans (hb6.mono hbw5.size)
          have hbv6 := hbv5.trans (hb6.mono hbv5.size)
          have XT6 := Lib.hid (XT.out.mono hbv6)
          have XR6 := Lib.hid (XR.out.mono hbv6)
          have XM6 := Lib.hid (XM.out.mono hbv6)
          clear hb6 hcut hbv6 hbv5 hbv4 hbv3 hbw1 hbw2 hbw3 hbw4 hbw5 KH KH1 KH2 KH3 KH4 KH5 XT XR XM
          obtain ⟨W6, hW6⟩ : ∃ X, X = wc := ⟨_, rfl⟩
          rw [← hW6] at KH6 hbw6 XT6 XR6 XM6 ⊢
          clear hW6
          go_wp2_with fail
          go_loopw [53] (fun v53 wr => ∃ k : Nat, k ≤ h.nt ∧ v53 = .int .i64 k ∧ Below W6.heap.size W6 wr) (fun i _ => h.nt - (intOf i).toNat)
          case atStart => exact ⟨0, Nat.zero_le _, rfl, Below.refl _ _⟩
          case round =>
            obtain ⟨k, hk, rfl, hb⟩ := hrel
            have hbr := hbw6.trans (hb.mono hbw6.size)
            by_cases hlt : k < h.nt
            · obtain ⟨b, off, rfl, hlt0, m0, m1, m2⟩ := (HT.out.mono hbr) k hlt
              obtain ⟨b', off', rfl, hlt1, n0, n1, n2⟩ := (XT6.out.mono hb) k hlt
              obtain ⟨a0, a1, a2, a3, als⟩ := KH6.out.below hb
              have hlt9 : (k : Int) < (h.nt : Int) := by omega
              go_wp2_with fail
              go_big_quiet (fail)
              go_wp2_with fail
              go_roundw
              case rel => exact ⟨k + 1, by omega, by go_num, below_drewN hb _⟩
              case measure => simp [intOf]; omega
            · obtain rfl : k = h.nt := by omega
              have KH7 := Lib.hid (KH6.out.below hb)
              have XR7 := Lib.hid (XR6.out.mono hb)
              have XM7 := Lib.hid (XM6.out.mono hb)
              obtain ⟨W7, hW7⟩ : ∃ X, X = wr := ⟨_, rfl⟩
              rw [← hW7] at KH7 XR7 XM7 hbr ⊢
              clear hW7 hb hbw6 XT6 XR6 XM6 KH6
              go_wp2_with fail
              go_loopw [69] (fun v69 wr => ∃ k : Nat, k ≤ h.nr ∧ v69 = .int .i64 k ∧ Below W7.heap.size W7 wr) (fun i _ => h.nr - (intOf i).toNat)
              case atStart => exact ⟨0, Nat.zero_le _, rfl, Below.refl _ _⟩
              case round =>
                obtain ⟨k, hk, rfl, hb⟩ := hrel
                have hbs := hbr.trans (hb.mono hbr.size)
                by_cases hlt : k < h.nr
                · obtain ⟨b, off, rfl, hlt0, m0, m1⟩ := (HR.out.mono hbs) k hlt
                  obtain ⟨b', off', rfl, hlt1, n0, n1⟩ := (XR7.out.mono hb) k hlt
                  obtain ⟨a0, a1, a2, a3, als⟩ := KH7.out.below hb
                  have hlt9 : (k : Int) < (h.nr : Int) := by omega
                  go_wp2_with fail
                  go_big_quiet (fail)
                  go_wp2_with fail
                  go_roundw
                  case rel => exact ⟨k + 1, by omega, by go_num, below_drewN hb _⟩
                  case measure => simp [intOf]; omega
                · obtain rfl : k = h.nr := by omega
                  have XM8 := Lib.hid (XM7.out.mono hb)
                  obtain ⟨W8, hW8⟩ : ∃ X, X = wr := ⟨_, rfl⟩
                  rw [← hW8] at XM8 hbs ⊢
                  clear hW8 hb hbr XR7 XM7 KH7
                  go_wp2_with fail
                  go_loopw [85] (fun v85 wr => ∃ k : Nat, k ≤ n ∧ v85 = .int .i64 k ∧ Below W8.heap.size W8 wr) (fun i _ => n - (intOf i).toNat)
                  case atStart => exact ⟨0, Nat.zero_le _, rfl, Below.refl _ _⟩
                  case round =>
                    obtain ⟨k, hk, rfl, hb⟩ := hrel
                    have hbu := hbs.trans (hb.mono hbs.size)
                    by_cases hlt : k < n
                    · obtain ⟨b, off, rfl, hlt0, m0, m1, m2, m3⟩ := (HM.out.mono hbu) k hlt
                      obtain ⟨b', off', rfl, hlt1, n0, n1, n2, n3⟩ := (XM8.out.mono hb) k hlt
                      have hlt9 : (k : Int) < (n : Int) := by omega
                      go_wp2_with fail
                      go_big_quiet (fail)
                      go_wp2_with fail
                      go_roundw
                      case rel => exact ⟨k + 1, by omega, by go_num, below_drewN hb _⟩
                      case measure => simp [intOf]; omega
                    · obtain rfl : k = n := by omega
                      go_wp2_with fail
                      refine (HA.out _).mono ?_
                      rintro e wz ⟨rfl, hbz⟩
                      go_wp2
                      go_ret
                      exact ⟨rfl, hbu.trans (hbz.mono hbu.size)⟩
end Go.Proofs.Ytckagcbjcpfjpaa
