/- The document's Flow says what a set takes and needs; the house is valid, the set is below 1024. -/
import Derived.Test.YtckagcbjcpfjpaaR3
import Derived.BigRegion
namespace Go.Proofs.Ytckagcbjcpfjpaa
open Go.RowKit
def FlAt (n : Nat) (a b : Int) (W : World) : Prop :=
  W.cell? ⟨n + 1 + 1, 0, none⟩ = some (.int .i64 a) ∧ W.cell? ⟨n + 1 + 1, 1, none⟩ = some (.int .i64 b) ∧ W.frozen? ⟨n + 1 + 1, 0, none⟩ = false ∧ W.frozen? ⟨n + 1 + 1, 1, none⟩ = false ∧
  W.cell? ⟨n + 1, 0, none⟩ = some (.int .i64 0) ∧ W.cell? ⟨n + 1, 1, none⟩ = some (.int .i64 0) ∧ W.frozen? ⟨n + 1, 0, none⟩ = false ∧ W.frozen? ⟨n + 1, 1, none⟩ = false
theorem fl_set {n : Nat} {a b : Int} {W : World} (h : FlAt n a b W) (x y : Int) : FlAt n x y ((W.setCell ⟨n + 1 + 1, 0, none⟩ (.int .i64 x)).setCell ⟨n + 1 + 1, 1, none⟩ (.int .i64 y)) := by
  obtain ⟨h1, h2, h3, h4, h5, h6, h7, h8⟩ := h
  simp [FlAt, go_sem, h1, h2, h3, h4, h5, h6, h7, h8]
def House.floN (h : House) (s m : Nat) : Int := sumN m fun k => if bitAt s k then (h.t k).lo else 0
def House.fhiN (h : House) (s m : Nat) : Int := sumN m fun k => if bitAt s k then (h.t k).hi else 0
def House.needN (h : House) (s m : Nat) : Int := maxN m fun k => if bitAt s k then (h.t k).need else 0
theorem flo_yes (h : House) {s m : Nat} (hb : bitAt s m = true) : h.floN s (m + 1) = h.floN s m + (h.t m).lo := by simp [House.floN, sumN, hb]
theorem fhi_yes (h : House) {s m : Nat} (hb : bitAt s m = true) : h.fhiN s (m + 1) = h.fhiN s m + (h.t m).hi := by simp [House.fhiN, sumN, hb]
theorem need_yes (h : House) {s m : Nat} (hb : bitAt s m = true) : h.needN s (m + 1) = max (h.needN s m) (h.t m).need := by simp [House.needN, maxN, hb]
theorem flo_no (h : House) {s m : Nat} (hb : bitAt s m = false) : h.floN s (m + 1) = h.floN s m := by simp [House.floN, sumN, hb]
theorem fhi_no (h : House) {s m : Nat} (hb : bitAt s m = false) : h.fhiN s (m + 1) = h.fhiN s m := by simp [House.fhiN, sumN, hb]
theorem need_no (h : House) {s m : Nat} (hb : bitAt s m = false) : h.needN s (m + 1) = h.needN s m := by
  have : 0 ≤ h.needN s m := maxN_nonneg
  have e : h.needN s (m + 1) = max (h.needN s m) 0 := by simp [House.needN, maxN, hb]
  rw [e]; omega
theorem floN_bd {h : House} (hv : h.valid = true) (s m : Nat) (hm : m ≤ h.nt) : 0 ≤ h.floN s m ∧ h.floN s m ≤ 1000000 := by
  have hn := (valid_nt hv).2.1
  have := sumN_bd (n := m) (f := fun k => if bitAt s k then (h.t k).lo else 0) (b := 100000) (fun k hk => by
    have := valid_tap hv k (by omega)
    split <;> omega)
  unfold House.floN
  omega
theorem fhiN_bd {h : House} (hv : h.valid = true) (s m : Nat) (hm : m ≤ h.nt) : 0 ≤ h.fhiN s m ∧ h.fhiN s m ≤ 1000000 := by
  have hn := (valid_nt hv).2.1
  have := sumN_bd (n := m) (f := fun k => if bitAt s k then (h.t k).hi else 0) (b := 100000) (fun k hk => by
    have := valid_tap hv k (by omega)
    split <;> omega)
  unfold House.fhiN
  omega
set_option maxHeartbeats 8000000 in
theorem refFlow_any (h : House) (hv : h.valid = true) (s : Nat) (hs : s < 1024) (ta ra : Option Addr) (tc rc : Nat) (w : World) (hT : TapsAt w ta h.nt h.t) :
    Calls Try.prog 28 #[houseV h ta ra tc rc, .int .i64 (s : Nat)] w fun e w' => e = .returned (.tuple #[.agg #[.int .i64 (h.flo s), .int .i64 (h.fhi s)], .int .i64 (h.need s)]) ∧ Below w.heap.size w w' := by
  have HT := Lib.hid hT
  have HV := Lib.hid hv
  have hn : h.nt ≤ 10 := (valid_nt hv).2.1
  clear hT hv
  go_enter Try.func28, Try.ntmps28
  go_wp2
  have k0 : (((w.alloc (.cells #[.int .i64 h.head, .int .i64 h.drip, .slice ta h.nt tc, .slice ra h.nr rc] 25)).alloc (.cells #[.int .i64 0, .int .i64 0] 31)).alloc (.cells #[.int .i64 0, .int .i64 0] 31)).cell? ⟨w.heap.size, 2, none⟩ = some (.slice ta h.nt tc) := by simp [go_sem]
  have k1 : FlAt w.heap.size 0 0 (((w.alloc (.cells #[.int .i64 h.head, .int .i64 h.drip, .slice ta h.nt tc, .slice ra h.nr rc] 25)).alloc (.cells #[.int .i64 0, .int .i64 0] 31)).alloc (.cells #[.int .i64 0, .int .i64 0] 31)) := by simp [FlAt, go_sem]
  have kb : Below w.heap.size w (((w.alloc (.cells #[.int .i64 h.head, .int .i64 h.drip, .slice ta h.nt tc, .slice ra h.nr rc] 25)).alloc (.cells #[.int .i64 0, .int .i64 0] 31)).alloc (.cells #[.int .i64 0, .int .i64 0] 31)) := (by repeat' (first | exact Below.refl _ _ | assumption | apply below_drewN | apply Below.drew | (refine Below.alloc ?_ ?_ _) | (refine Below.setCell ?_ ?_ _) | (simp; done) | (simp; omega) | omega))
  obtain ⟨W1, hW1⟩ : ∃ X, X = ((w.alloc (.cells #[.int .i64 h.head, .int .i64 h.drip, .slice ta h.nt tc, .slice ra h.nr rc] 25)).alloc (.cells #[.int .i64 0, .int .i64 0] 31)).alloc (.cells #[.int .i64 0, .int .i64 0] 31) := ⟨_, rfl⟩
  rw [← hW1] at k0 k1 kb ⊢
  clear hW1
  go_loopw [7, 8] (fun v7 v8 wr => ∃ m : Nat, m ≤ h.nt ∧ v8 = .int .i64 m ∧ v7 = .int .i64 (h.needN s m) ∧ wr.cell? ⟨w.heap.size, 2, none⟩ = some (.slice ta h.nt tc) ∧ FlAt w.heap.size (h.floN s m) (h.fhiN s m) wr ∧ Below w.heap.size w wr) (fun _ i _ => h.nt - (intOf i).toNat)
  case atStart => exact ⟨0, Nat.zero_le _, rfl, rfl, k0, k1, kb⟩
  case round =>
    obtain ⟨m, hm, rfl, rfl, q0, q1, hb⟩ := hrel
    have HQ := Lib.hid q1
    obtain ⟨c0, c1, c2, c3, c4, c5, c6, c7⟩ := q1
    clear k0 k1 kb
    by_cases hlt : m < h.nt
    · obtain ⟨b, off, rfl, hlt0, h0, h1, h2⟩ := (HT.out.mono hb) m hlt
      have hm60 : m ≤ 60 := by omega
      have hs6 : s ≤ 1000000 := by omega
      have bl := floN_bd HV.out s m hm
      have bh := fhiN_bd HV.out s m hm
      have bt := valid_tap HV.out m hlt
      by_cases ca : bitAt s m = true
      · have HA := Lib.hid ca
        go_wp2_with (go_at_call 47; refine (has_any _ _ _ (by omega) (by omega)).mono ?_; rintro e w' ⟨rfl, rfl⟩)
        go_region
        go_wp2
        all_goals
          go_roundw
          case rel =>
            refine ⟨m + 1, by omega, by go_num, ?_, ?_, ?_, ?_⟩
            · rw [need_yes h HA.out]
            · show ((wr.setCell _ _).setCell _ _).cell? _ = _
              simp [go_sem, q0]
            · rw [flo_yes h HA.out, fhi_yes h HA.out]
              exact fl_set HQ.out _ _
            · exact ((hb.setCell (by dsimp only; omega) _).setCell (by dsimp only; omega) _).drew
          case measure => simp [intOf]; omega
      · replace ca : bitAt s m = false := by simpa using ca
        have HA := Lib.hid ca
        go_wp2_with (go_at_call 47; refine (has_any _ _ _ (by omega) (by omega)).mono ?_; rintro e w' ⟨rfl, rfl⟩)
        go_roundw
        case rel => exact ⟨m + 1, by omega, by go_num, by rw [need_no h HA.out], q0, by rw [flo_no h HA.out, fhi_no h HA.out]; exact HQ.out, hb⟩
        case measure => simp [intOf]; omega
    · obtain rfl : m = h.nt := by omega
      go_wp2
      refine bodyPost_ret (v := .tuple #[.agg #[.int .i64 (h.floN s h.nt), .int .i64 (h.fhiN s h.nt)], .int .i64 (h.needN s h.nt)]) (by simp [results, Try.results28, go_sem, c4, c5]) rfl ⟨rfl, ?_⟩
      exact (hb.setCell (by dsimp only; omega) _).setCell (by dsimp only; omega) _
end Go.Proofs.Ytckagcbjcpfjpaa
