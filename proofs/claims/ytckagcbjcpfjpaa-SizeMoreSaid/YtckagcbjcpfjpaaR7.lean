/- The document's Peak says what the program's own says. -/
import Derived.Test.YtckagcbjcpfjpaaR6
import Derived.Test.YtckagcbjcpfjpaaPeak
namespace Go.Proofs.Ytckagcbjcpfjpaa
open Go.RowKit
structure RpAt (h : House) (ta ra : Option Addr) (tc rc n c : Nat) (x y : Int) (W : World) : Prop where
  a0 : W.cell? ⟨n, 0, none⟩ = some (.int .i64 h.head)
  a1 : W.cell? ⟨n, 1, none⟩ = some (.int .i64 h.drip)
  a2 : W.cell? ⟨n, 2, none⟩ = some (.slice ta h.nt tc)
  a3 : W.cell? ⟨n, 3, none⟩ = some (.slice ra h.nr rc)
  b0 : W.cell? ⟨n + 1, 0, none⟩ = some (.int .i64 0)
  b1 : W.cell? ⟨n + 1, 1, none⟩ = some (.int .i64 0)
  f0 : W.frozen? ⟨n + 1, 0, none⟩ = false
  f1 : W.frozen? ⟨n + 1, 1, none⟩ = false
  c0 : W.cell? ⟨c, 0, none⟩ = some (.int .i64 x)
  c1 : W.cell? ⟨c, 1, none⟩ = some (.int .i64 y)
  g0 : W.frozen? ⟨c, 0, none⟩ = false
  g1 : W.frozen? ⟨c, 1, none⟩ = false
  lc : n + 1 < c
  ls : c < W.heap.size
theorem RpAt.below {h : House} {ta ra : Option Addr} {tc rc n c : Nat} {x y : Int} {W W' : World} (k : RpAt h ta ra tc rc n c x y W) (hb : Below W.heap.size W W') : RpAt h ta ra tc rc n c x y W' := by
  obtain ⟨a0, a1, a2, a3, b0, b1, f0, f1, c0, c1, g0, g1, lc, ls⟩ := k
  have hs := hb.size
  exact ⟨(hb.cell (p := ⟨n, 0, none⟩) (by dsimp only; omega)).trans a0, (hb.cell (p := ⟨n, 1, none⟩) (by dsimp only; omega)).trans a1, (hb.cell (p := ⟨n, 2, none⟩) (by dsimp only; omega)).trans a2, (hb.cell (p := ⟨n, 3, none⟩) (by dsimp only; omega)).trans a3,
    (hb.cell (p := ⟨n + 1, 0, none⟩) (by dsimp only; omega)).trans b0, (hb.cell (p := ⟨n + 1, 1, none⟩) (by dsimp only; omega)).trans b1, (hb.frozen (p := ⟨n + 1, 0, none⟩) (by dsimp only; omega)).trans f0, (hb.frozen (p := ⟨n + 1, 1, none⟩) (by dsimp only; omega)).trans f1,
    (hb.cell (p := ⟨c, 0, none⟩) (by dsimp only; omega)).trans c0, (hb.cell (p := ⟨c, 1, none⟩) (by dsimp only; omega)).trans c1, (hb.frozen (p := ⟨c, 0, none⟩) (by dsimp only; omega)).trans g0, (hb.frozen (p := ⟨c, 1, none⟩) (by dsimp only; omega)).trans g1, lc, by omega⟩
theorem RpAt.set {h : House} {ta ra : Option Addr} {tc rc n c : Nat} {x y : Int} {W : World} (k : RpAt h ta ra tc rc n c x y W) (u v : Int) :
    RpAt h ta ra tc rc n c u v ((W.setCell ⟨c, 0, none⟩ (.int .i64 u)).setCell ⟨c, 1, none⟩ (.int .i64 v)) := by
  obtain ⟨a0, a1, a2, a3, b0, b1, f0, f1, c0, c1, g0, g1, lc, ls⟩ := k
  have e1 : ¬ n = c := by omega
  have e2 : ¬ n + 1 = c := by omega
  constructor <;> simp [go_sem, *]
theorem peakOf_yes (h : House) {k : Nat} (ho : h.ok k = true) : h.peakOf (h.opens (k + 1)) = h.peakStep (h.peakOf (h.opens k)) k := by
  rw [opens_succ, if_pos ho, peakOf_snoc]
theorem peakOf_no (h : House) {k : Nat} (ho : h.ok k = false) : h.peakOf (h.opens (k + 1)) = h.peakOf (h.opens k) := by
  rw [opens_succ, if_neg (by simp [ho])]
set_option maxHeartbeats 4000000 in
theorem refPeak_any (h : House) (ta ra : Option Addr) (tc rc : Nat) (w : World) (g1 : h.nt ≤ 1000000) (g2 : h.nr ≤ 1000000) (hT : TapsAt w ta h.nt h.t) (hR : RulesAt w ra h.nr h.r) (hv : h.valid = true) :
    Calls Try.prog 15 #[houseV h ta ra tc rc] w fun e w' => e = .returned (.tuple #[.agg #[.int .i64 h.peak.1, .int .i64 h.peak.2.1], .int .i64 (h.peak.2.2 : Nat), .int .i64 0]) ∧ Below w.heap.size w w' := by
  have HT := Lib.hid hT
  have HR := Lib.hid hR
  have HV := Lib.hid hv
  have hn : h.nt ≤ 60 := by have := (valid_nt hv).2.1; omega
  obtain ⟨N, hN⟩ : ∃ N, N = 2 ^ h.nt := ⟨_, rfl⟩
  have hpw : pw h.nt = (N : Int) := by rw [hN]; rfl
  have hN1 : N ≤ 1024 := by rw [hN]; exact pow_le _ (valid_nt hv).2.1
  have HN := Lib.hid hN
  clear hT hR hv hN
  go_enter Try.func15, Try.ntmps15
  go_wp2_with fail
  refine (refHouse_any h ta ra tc rc _ g1 g2 (HT.out.mono (by repeat' (first | exact Below.refl _ _ | assumption | apply below_drewN | apply Below.drew | (refine Below.alloc ?_ ?_ _) | (refine Below.setCell ?_ ?_ _) | (simp; done) | (simp; omega) | omega))) (HR.out.mono (by repeat' (first | exact Below.refl _ _ | assumption | apply below_drewN | apply Below.drew | (refine Below.alloc ?_ ?_ _) | (refine Below.setCell ?_ ?_ _) | (simp; done) | (simp; omega) | omega)))).mono ?_
  rintro e w1 ⟨rfl, hb1⟩
  rw [HV.out]
  have hs1 := hb1.size
  simp only [World.size_alloc] at hs1
  have kb : Below w.heap.size w (w1.alloc (.cells #[.int .i64 0, .int .i64 0] 31)) := Below.alloc (Below.trans (by repeat' (first | exact Below.refl _ _ | assumption | apply below_drewN | apply Below.drew | (refine Below.alloc ?_ ?_ _) | (refine Below.setCell ?_ ?_ _) | (simp; done) | (simp; omega) | omega)) (hb1.mono (by simp; omega))) (by omega) _
  have kr : RpAt h ta ra tc rc w.heap.size w1.heap.size 0 0 (w1.alloc (.cells #[.int .i64 0, .int .i64 0] 31)) := by
    have q0 : w1.cell? ⟨w.heap.size, 0, none⟩ = some (.int .i64 h.head) := (hb1.cell (p := ⟨w.heap.size, 0, none⟩) (by simp; omega)).trans (by simp [go_sem])
    have q1 : w1.cell? ⟨w.heap.size, 1, none⟩ = some (.int .i64 h.drip) := (hb1.cell (p := ⟨w.heap.size, 1, none⟩) (by simp; omega)).trans (by simp [go_sem])
    have q2 : w1.cell? ⟨w.heap.size, 2, none⟩ = some (.slice ta h.nt tc) := (hb1.cell (p := ⟨w.heap.size, 2, none⟩) (by simp; omega)).trans (by simp [go_sem])
    have q3 : w1.cell? ⟨w.heap.size, 3, none⟩ = some (.slice ra h.nr rc) := (hb1.cell (p := ⟨w.heap.size, 3, none⟩) (by simp; omega)).trans (by simp [go_sem])
    have u0 : w1.cell? ⟨w.heap.size + 1, 0, none⟩ = some (.int .i64 0) := (hb1.cell (p := ⟨w.heap.size + 1, 0, none⟩) (by simp)).trans (by simp [go_sem])
    have u1 : w1.cell? ⟨w.heap.size + 1, 1, none⟩ = some (.int .i64 0) := (hb1.cell (p := ⟨w.heap.size + 1, 1, none⟩) (by simp)).trans (by simp [go_sem])
    have f0 : w1.frozen? ⟨w.heap.size + 1, 0, none⟩ = false := (hb1.frozen (p := ⟨w.heap.size + 1, 0, none⟩) (by simp)).trans (by simp [go_sem])
    have f1 : w1.frozen? ⟨w.heap.size + 1, 1, none⟩ = false := (hb1.frozen (p := ⟨w.heap.size + 1, 1, none⟩) (by simp)).trans (by simp [go_sem])
    have hA : Below w1.heap.size w1 (w1.alloc (.cells #[.int .i64 0, .int .i64 0] 31)) := below_alloc1 _ _
    exact ⟨(hA.cell (p := ⟨w.heap.size, 0, none⟩) (by dsimp only; omega)).trans q0, (hA.cell (p := ⟨w.heap.size, 1, none⟩) (by dsimp only; omega)).trans q1, (hA.cell (p := ⟨w.heap.size, 2, none⟩) (by dsimp only; omega)).trans q2, (hA.cell (p := ⟨w.heap.size, 3, none⟩) (by dsimp only; omega)).trans q3,
      (hA.cell (p := ⟨w.heap.size + 1, 0, none⟩) (by dsimp only; omega)).trans u0, (hA.cell (p := ⟨w.heap.size + 1, 1, none⟩) (by dsimp only; omega)).trans u1, (hA.frozen (p := ⟨w.heap.size + 1, 0, none⟩) (by dsimp only; omega)).trans f0, (hA.frozen (p := ⟨w.heap.size + 1, 1, none⟩) (by dsimp only; omega)).trans f1,
      by simp [go_sem], by simp [go_sem], by simp [go_sem], by simp [go_sem], by omega, by simp⟩
  clear hb1
  go_wp2
  obtain ⟨W1, hW1⟩ : ∃ X, X = w1.alloc (.cells #[.int .i64 0, .int .i64 0] 31) := ⟨_, rfl⟩
  rw [← hW1] at kb kr ⊢
  clear hW1
  go_loopw [6, 7] (fun v6 v7 wr => ∃ k : Nat, k ≤ N ∧ v7 = .int .i64 k ∧ v6 = .int .i64 ((h.peakOf (h.opens k)).2.2 : Nat) ∧ RpAt h ta ra tc rc w.heap.size w1.heap.size (h.peakOf (h.opens k)).1 (h.peakOf (h.opens k)).2.1 wr ∧ Below w.heap.size w wr) (fun _ i _ => N - (intOf i).toNat)
  case atStart => exact ⟨0, Nat.zero_le _, rfl, rfl, kr, kb⟩
  case round =>
    obtain ⟨k, hk, rfl, rfl, hr, hb⟩ := hrel
    have HRP := Lib.hid hr
    obtain ⟨q0, q1, q2, q3, u0, u1, f0, f1, c0, c1, d0, d1, lc, ls⟩ := hr
    clear kr kb
    by_cases hlt : k < N
    · have hk3 : k < 1024 := by omega
      rcases co : h.ok k
      · have HO := Lib.hid (peakOf_no h co)
        go_wp2_with (first | (go_at_call 37; refine (power_any _ _ (by omega)).mono ?_; rintro e w' ⟨rfl, rfl⟩) | (go_at_call 26; refine (refOpen_any h HV.out k hk3 ta ra tc rc _ (HR.out.mono hb)).mono ?_; rintro e w3 ⟨rfl, hb3⟩; rw [co]))
        go_roundw
        case rel => exact ⟨k + 1, by omega, by go_num, by rw [HO.out], by rw [HO.out]; exact HRP.out.below hb3, hb.trans (hb3.mono hb.size)⟩
        case measure => simp [intOf]; omega
      · have HO := Lib.hid (peakOf_yes h co)
        go_wp2_with (first | (go_at_call 37; refine (power_any _ _ (by omega)).mono ?_; rintro e w' ⟨rfl, rfl⟩) | (go_at_call 26; refine (refOpen_any h HV.out k hk3 ta ra tc rc _ (HR.out.mono hb)).mono ?_; rintro e w3 ⟨rfl, hb3⟩; rw [co]; obtain ⟨q0', q1', q2', q3', u0', u1', f0', f1', c0', c1', d0', d1', lc', ls'⟩ := HRP.out.below hb3))
        have hb4 := hb.trans (hb3.mono hb.size)
        have HR3 := Lib.hid (HRP.out.below hb3)
        clear q0 q1 q2 q3 u0 u1 f0 f1 c0 c1 d0 d1
        refine (refFlow_any h HV.out k hk3 ta ra tc rc _ (HT.out.mono hb4)).mono ?_
        rintro e w5 ⟨rfl, hb5⟩
        have hb6 := hb4.trans (hb5.mono hb4.size)
        have HR6 := Lib.hid (HR3.out.below hb5)
        have hs6 := hb6.size
        have hls5 : w1.heap.size < w5.heap.size := (HR3.out.below hb5).ls
        have hne5 : ¬ w1.heap.size = w5.heap.size := by omega
        obtain ⟨-, -, -, -, -, -, -, -, r0, r1, s0, s1, -, -⟩ := HR3.out.below hb5
        clear q0' q1' q2' q3' u0' u1' f0' f1' c0' c1' d0' d1' lc' ls' hb3 hb5
        have HP := Lib.hid (show h.peakOf (h.opens (k + 1)) = (max (h.peakOf (h.opens k)).1 (h.flo k), max (h.peakOf (h.opens k)).2.1 (h.fhi k), if h.fhi k > (h.peakOf (h.opens k)).2.1 then k else (h.peakOf (h.opens k)).2.2) from HO.out)
        clear HO HR3
        obtain ⟨⟨A, B, C⟩, hABC⟩ : ∃ x, x = h.peakOf (h.opens k) := ⟨_, rfl⟩
        rw [← hABC] at HP HR6 r0 r1
        dsimp only at HP HR6 r0 r1
        by_cases hq : B < h.fhi k
        · have HQ := Lib.hid hq
          go_wp2
          go_roundw
          case rel => exact ⟨k + 1, by omega, by go_num, by rw [HP.out]; simp [HQ.out], by rw [HP.out]; exact (HR6.out.set _ _).below (below_alloc1 _ _), ((hb6.setCell (by dsimp only; omega) _).setCell (by dsimp only; omega) _).alloc (by simp; omega) _⟩
          case measure => simp [intOf]; omega
        · have HQ := Lib.hid hq
          go_wp2
          go_roundw
          case rel => exact ⟨k + 1, by omega, by go_num, by rw [HP.out]; simp only [← hABC, if_neg (Int.not_lt.2 HQ.out)], by rw [HP.out]; exact (HR6.out.set _ _).below (below_alloc1 _ _), ((hb6.setCell (by dsimp only; omega) _).setCell (by dsimp only; omega) _).alloc (by simp; omega) _⟩
          case measure => simp [intOf]; omega
    · obtain rfl : k = N := by omega
      go_wp2_with (go_at_call 37; refine (power_any _ _ (by omega)).mono ?_; rintro e w' ⟨rfl, rfl⟩)
      have hP := Lib.hid (show h.peakOf (h.opens k) = h.peak by rw [HN.out]; rfl)
      rw [hP.out]
      refine bodyPost_ret (v := .tuple #[.agg #[.int .i64 h.peak.1, .int .i64 h.peak.2.1], .int .i64 (h.peak.2.2 : Nat), .int .i64 0]) (by simp [results, Try.results15, go_sem, u0, u1]) rfl ⟨rfl, ?_⟩
      exact (hb.setCell (by dsimp only; omega) _).setCell (by dsimp only; omega) _
end Go.Proofs.Ytckagcbjcpfjpaa
