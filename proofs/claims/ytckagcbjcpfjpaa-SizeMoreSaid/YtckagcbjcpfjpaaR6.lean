/- The document's Starves, starved and Starved say what the program's own say. -/
import Derived.Test.YtckagcbjcpfjpaaR4
import Derived.Test.YtckagcbjcpfjpaaR5
import Derived.Test.YtckagcbjcpfjpaaChoose
namespace Go.Proofs.Ytckagcbjcpfjpaa
open Go.RowKit
def House.tooMuch (h : House) (m : Meter) (s : Nat) : Bool := decide (h.fhi s > m.full)
def House.pressB (h : House) (m : Meter) (s : Nat) : Bool := decide (m.loss * h.fhi s * h.fhi s > (h.head - h.need s) * m.full * m.full)
set_option maxHeartbeats 1000000 in
theorem refStarves_any (h : House) (hv : h.valid = true) (m : Meter) (hm : m.fair) (s : Nat) (hs : s < 1024) (ta ra : Option Addr) (tc rc : Nat) (w : World) (hT : TapsAt w ta h.nt h.t) :
    Calls Try.prog 57 #[houseV h ta ra tc rc, m.val, .int .i64 (s : Nat)] w fun e w' => e = .returned (.tuple #[.bool (h.tooMuch m s || h.pressB m s), .bool (!h.tooMuch m s && h.pressB m s)]) ∧ Below w.heap.size w w' := by
  have HT := Lib.hid hT
  clear hT
  obtain ⟨start, full, loss, price⟩ := m
  obtain ⟨m1, m2, m3, m4⟩ := hm
  have n1 := valid_nt hv
  have n2 := fhi_bd hv s
  have n3 := need_bd hv s
  dsimp only at m1 m2 m3 m4
  have p1 := mulb (a := loss) (b := h.fhi s) (x := 10000) (y := 1000000) m3 m4 n2.1 n2.2
  have p2 := mulb (a := loss * h.fhi s) (b := h.fhi s) (x := 10000 * 1000000) (y := 1000000) p1.1 p1.2 n2.1 n2.2
  have p3 := mulsb (a := h.head - h.need s) (b := full) (x := 10000) (y := 1000000) (by omega) (by omega) (by omega) m2
  have p4 := mulsb (a := (h.head - h.need s) * full) (b := full) (x := 10000 * 1000000) (y := 1000000) p3.1 p3.2 (by omega) m2
  go_enter Try.func57, Try.ntmps57
  go_wp2_with fail
  refine (refFlow_any h hv s hs ta ra tc rc _ (HT.out.mono (by repeat' (first | exact Below.refl _ _ | assumption | apply below_drewN | apply Below.drew | (refine Below.alloc ?_ ?_ _) | (refine Below.setCell ?_ ?_ _) | (simp; done) | (simp; omega) | omega)))).mono ?_
  rintro e w1 ⟨rfl, hb1⟩
  have hs1 := hb1.size
  simp only [World.size_alloc] at hs1
  have hbw : Below w.heap.size w w1 := Below.trans (by repeat' (first | exact Below.refl _ _ | assumption | apply below_drewN | apply Below.drew | (refine Below.alloc ?_ ?_ _) | (refine Below.setCell ?_ ?_ _) | (simp; done) | (simp; omega) | omega)) (hb1.mono (by simp; omega))
  have q0 : w1.cell? ⟨w.heap.size, 0, none⟩ = some (.int .i64 h.head) := (hb1.cell (p := ⟨w.heap.size, 0, none⟩) (by simp; omega)).trans (by simp [go_sem])
  have q1 : w1.cell? ⟨w.heap.size + 1, 1, none⟩ = some (.int .i64 full) := (hb1.cell (p := ⟨w.heap.size + 1, 1, none⟩) (by simp)).trans (by simp [go_sem])
  have q2 : w1.cell? ⟨w.heap.size + 1, 2, none⟩ = some (.int .i64 loss) := (hb1.cell (p := ⟨w.heap.size + 1, 2, none⟩) (by simp)).trans (by simp [go_sem])
  have hbz : Below w.heap.size w (w1.alloc (.cells #[.int .i64 (h.flo s), .int .i64 (h.fhi s)] 31)) := hbw.alloc (by omega) _
  have hne0 : w.heap.size < w1.heap.size := by omega
  have hne1 : w.heap.size + 1 < w1.heap.size := by omega
  have hne2 : w.heap.size ≠ w1.heap.size := by omega
  have hne3 : w.heap.size + 1 ≠ w1.heap.size := by omega
  clear hb1
  by_cases hq : full < h.fhi s
  · have HQ := Lib.hid hq
    go_wp2
    go_ret2
    exact ⟨by simp [House.tooMuch, HQ.out], by first | exact hbz | exact hbz.drew | exact (by repeat' (first | exact Below.refl _ _ | assumption | apply below_drewN | apply Below.drew | (refine Below.alloc ?_ ?_ _) | (refine Below.setCell ?_ ?_ _) | (simp; done) | (simp; omega) | omega))⟩
  · have HQ := Lib.hid hq
    by_cases hp : (h.head - h.need s) * full * full < loss * h.fhi s * h.fhi s
    · have HP := Lib.hid hp
      go_wp2
      go_ret2
      exact ⟨by simp [House.tooMuch, House.pressB, HQ.out, HP.out], by first | exact hbz | exact hbz.drew | exact (by repeat' (first | exact Below.refl _ _ | assumption | apply below_drewN | apply Below.drew | (refine Below.alloc ?_ ?_ _) | (refine Below.setCell ?_ ?_ _) | (simp; done) | (simp; omega) | omega))⟩
    · have HP := Lib.hid hp
      go_wp2
      go_ret2
      exact ⟨by
        simp [House.tooMuch, House.pressB, HQ.out]
        intro hh
        exact absurd hh (Int.not_lt.2 HQ.out), by first | exact hbz | exact hbz.drew | exact (by repeat' (first | exact Below.refl _ _ | assumption | apply below_drewN | apply Below.drew | (refine Below.alloc ?_ ?_ _) | (refine Below.setCell ?_ ?_ _) | (simp; done) | (simp; omega) | omega))⟩
theorem find_range {n k : Nat} {p : Nat → Bool} (hk : k < n) (h : ∀ i, i < k → p i = false) (hp : p k = true) : (List.range n).find? p = some k := by
  obtain ⟨d, rfl⟩ : ∃ d, n = k + (d + 1) := ⟨n - k - 1, by omega⟩
  rw [List.range_add, List.find?_append, List.find?_eq_none.2 (fun x hx => by simp [h x (List.mem_range.1 hx)])]
  simp [List.range_succ_eq_map, hp]
theorem starved_find (h : House) (m : Meter) : (h.opens (2 ^ h.nt)).find? (h.starves m) = (List.range (2 ^ h.nt)).find? fun s => h.ok s && h.starves m s := by
  unfold House.opens
  generalize List.range (2 ^ h.nt) = l
  induction l with
  | nil => rfl
  | cons a l ih =>
    simp only [List.filter_cons]
    cases ha : h.ok a <;> cases hb : h.starves m a <;> simp [ha, hb, ih]
theorem starved_at {h : House} {m : Meter} {k : Nat} (hk : k < 2 ^ h.nt) (hno : ∀ i, i < k → (h.ok i && h.starves m i) = false) (hp : (h.ok k && h.starves m k) = true) : h.starved m = (k, !h.tooMuch m k) := by
  unfold House.starved
  rw [starved_find, find_range hk hno hp]
  rfl
theorem starved_no {h : House} {m : Meter} (hno : ∀ i, i < 2 ^ h.nt → (h.ok i && h.starves m i) = false) : h.starved m = (0, false) := by
  unfold House.starved
  rw [starved_find, List.find?_eq_none.2 (fun x hx => by simp [hno x (List.mem_range.1 hx)])]
theorem starves_zero (h : House) (m : Meter) : h.starves m 0 = false := by simp [House.starves]
theorem starves_eq {h : House} {m : Meter} {k : Nat} (hk : 0 < k) : h.starves m k = (h.tooMuch m k || h.pressB m k) := by
  have : (k != 0) = true := by simp; omega
  simp [House.starves, House.tooMuch, House.pressB, this]
set_option maxHeartbeats 2000000 in
theorem refstarved_any (h : House) (hv : h.valid = true) (m : Meter) (hm : m.fair) (ta ra : Option Addr) (tc rc : Nat) (w : World) (hT : TapsAt w ta h.nt h.t) (hR : RulesAt w ra h.nr h.r) :
    Calls Try.prog 40 #[houseV h ta ra tc rc, m.val] w fun e w' => e = .returned (.tuple #[.int .i64 ((h.starved m).1 : Nat), .bool (h.starved m).2]) ∧ Below w.heap.size w w' := by
  have HT := Lib.hid hT
  have HR := Lib.hid hR
  have HV := Lib.hid hv
  have HM := Lib.hid hm
  have hn : h.nt ≤ 60 := by have := (valid_nt hv).2.1; omega
  obtain ⟨N, hN⟩ : ∃ N, N = 2 ^ h.nt := ⟨_, rfl⟩
  have hpw : pw h.nt = (N : Int) := by rw [hN]; rfl
  have hN1 : N ≤ 1024 := by rw [hN]; exact pow_le _ (valid_nt hv).2.1
  have hN0 : 1 ≤ N := by rw [hN]; exact Nat.pow_pos (by omega)
  have HN := Lib.hid hN
  clear hT hR hv hm hN
  go_enter Try.func40, Try.ntmps40
  go_wp2
  have k0 : ((w.alloc (.cells #[.int .i64 h.head, .int .i64 h.drip, .slice ta h.nt tc, .slice ra h.nr rc] 25)).alloc (.cells #[.int .i64 m.start, .int .i64 m.full, .int .i64 m.loss, .int .i64 m.price] 27)).cell? ⟨w.heap.size, 0, none⟩ = some (.int .i64 h.head) := by simp [go_sem]
  have k1 : ((w.alloc (.cells #[.int .i64 h.head, .int .i64 h.drip, .slice ta h.nt tc, .slice ra h.nr rc] 25)).alloc (.cells #[.int .i64 m.start, .int .i64 m.full, .int .i64 m.loss, .int .i64 m.price] 27)).cell? ⟨w.heap.size, 1, none⟩ = some (.int .i64 h.drip) := by simp [go_sem]
  have k2 : ((w.alloc (.cells #[.int .i64 h.head, .int .i64 h.drip, .slice ta h.nt tc, .slice ra h.nr rc] 25)).alloc (.cells #[.int .i64 m.start, .int .i64 m.full, .int .i64 m.loss, .int .i64 m.price] 27)).cell? ⟨w.heap.size, 2, none⟩ = some (.slice ta h.nt tc) := by simp [go_sem]
  have k3 : ((w.alloc (.cells #[.int .i64 h.head, .int .i64 h.drip, .slice ta h.nt tc, .slice ra h.nr rc] 25)).alloc (.cells #[.int .i64 m.start, .int .i64 m.full, .int .i64 m.loss, .int .i64 m.price] 27)).cell? ⟨w.heap.size, 3, none⟩ = some (.slice ra h.nr rc) := by simp [go_sem]
  have k4 : ((w.alloc (.cells #[.int .i64 h.head, .int .i64 h.drip, .slice ta h.nt tc, .slice ra h.nr rc] 25)).alloc (.cells #[.int .i64 m.start, .int .i64 m.full, .int .i64 m.loss, .int .i64 m.price] 27)).cell? ⟨w.heap.size + 1, 0, none⟩ = some (.int .i64 m.start) := by simp [go_sem]
  have k5 : ((w.alloc (.cells #[.int .i64 h.head, .int .i64 h.drip, .slice ta h.nt tc, .slice ra h.nr rc] 25)).alloc (.cells #[.int .i64 m.start, .int .i64 m.full, .int .i64 m.loss, .int .i64 m.price] 27)).cell? ⟨w.heap.size + 1, 1, none⟩ = some (.int .i64 m.full) := by simp [go_sem]
  have k6 : ((w.alloc (.cells #[.int .i64 h.head, .int .i64 h.drip, .slice ta h.nt tc, .slice ra h.nr rc] 25)).alloc (.cells #[.int .i64 m.start, .int .i64 m.full, .int .i64 m.loss, .int .i64 m.price] 27)).cell? ⟨w.heap.size + 1, 2, none⟩ = some (.int .i64 m.loss) := by simp [go_sem]
  have k7 : ((w.alloc (.cells #[.int .i64 h.head, .int .i64 h.drip, .slice ta h.nt tc, .slice ra h.nr rc] 25)).alloc (.cells #[.int .i64 m.start, .int .i64 m.full, .int .i64 m.loss, .int .i64 m.price] 27)).cell? ⟨w.heap.size + 1, 3, none⟩ = some (.int .i64 m.price) := by simp [go_sem]
  have kb : Below w.heap.size w ((w.alloc (.cells #[.int .i64 h.head, .int .i64 h.drip, .slice ta h.nt tc, .slice ra h.nr rc] 25)).alloc (.cells #[.int .i64 m.start, .int .i64 m.full, .int .i64 m.loss, .int .i64 m.price] 27)) := (by repeat' (first | exact Below.refl _ _ | assumption | apply below_drewN | apply Below.drew | (refine Below.alloc ?_ ?_ _) | (refine Below.setCell ?_ ?_ _) | (simp; done) | (simp; omega) | omega))
  have ks : ((w.alloc (.cells #[.int .i64 h.head, .int .i64 h.drip, .slice ta h.nt tc, .slice ra h.nr rc] 25)).alloc (.cells #[.int .i64 m.start, .int .i64 m.full, .int .i64 m.loss, .int .i64 m.price] 27)).heap.size = w.heap.size + 2 := by simp
  obtain ⟨W1, hW1⟩ : ∃ X, X = (w.alloc (.cells #[.int .i64 h.head, .int .i64 h.drip, .slice ta h.nt tc, .slice ra h.nr rc] 25)).alloc (.cells #[.int .i64 m.start, .int .i64 m.full, .int .i64 m.loss, .int .i64 m.price] 27) := ⟨_, rfl⟩
  rw [← hW1] at k0 k1 k2 k3 k4 k5 k6 k7 kb ks ⊢
  clear hW1
  go_loopw [6] (fun v6 wr => ∃ k : Nat, 1 ≤ k ∧ k ≤ N ∧ v6 = .int .i64 k ∧ Below W1.heap.size W1 wr ∧ ∀ i, i < k → (h.ok i && h.starves m i) = false) (fun i _ => N - (intOf i).toNat)
  case atStart => exact ⟨1, Nat.le_refl _, hN0, rfl, Below.refl _ _, fun i hi => by
    obtain rfl : i = 0 := by omega
    simp [starves_zero]⟩
  case round =>
    obtain ⟨k, hk1, hk, rfl, hb, hno⟩ := hrel
    have HNO := Lib.hid hno
    clear hno
    have q0 := (hb.cell (p := ⟨w.heap.size, 0, none⟩) (by dsimp only; omega)).trans k0
    have q1 := (hb.cell (p := ⟨w.heap.size, 1, none⟩) (by dsimp only; omega)).trans k1
    have q2 := (hb.cell (p := ⟨w.heap.size, 2, none⟩) (by dsimp only; omega)).trans k2
    have q3 := (hb.cell (p := ⟨w.heap.size, 3, none⟩) (by dsimp only; omega)).trans k3
    have q4 := (hb.cell (p := ⟨w.heap.size + 1, 0, none⟩) (by dsimp only; omega)).trans k4
    have q5 := (hb.cell (p := ⟨w.heap.size + 1, 1, none⟩) (by dsimp only; omega)).trans k5
    have q6 := (hb.cell (p := ⟨w.heap.size + 1, 2, none⟩) (by dsimp only; omega)).trans k6
    have q7 := (hb.cell (p := ⟨w.heap.size + 1, 3, none⟩) (by dsimp only; omega)).trans k7
    have hbw := kb.trans (hb.mono (by omega))
    have hsz := hb.size
    clear k0 k1 k2 k3 k4 k5 k6 k7
    by_cases hlt : k < N
    · have HS := Lib.hid (starves_eq (h := h) (m := m) (k := k) (by omega))
      have hk3 : k < 1024 := by omega
      rcases cq : h.tooMuch m k <;> rcases cp : h.pressB m k <;> rcases co : h.ok k
      all_goals
        rw [cq, cp] at HS
        go_wp2_with (go_at_call 37; refine (power_any _ _ (by omega)).mono ?_; rintro e w' ⟨rfl, rfl⟩)
        refine (refStarves_any h HV.out m HM.out k hk3 ta ra tc rc _ (HT.out.mono hbw)).mono ?_
        rintro e w2 ⟨rfl, hb2⟩
        rw [cq, cp]
        have r0 := (hb2.cell (p := ⟨w.heap.size, 0, none⟩) (by dsimp only; omega)).trans q0
        have r1 := (hb2.cell (p := ⟨w.heap.size, 1, none⟩) (by dsimp only; omega)).trans q1
        have r2 := (hb2.cell (p := ⟨w.heap.size, 2, none⟩) (by dsimp only; omega)).trans q2
        have r3 := (hb2.cell (p := ⟨w.heap.size, 3, none⟩) (by dsimp only; omega)).trans q3
        have hbx := hbw.trans (hb2.mono hbw.size)
        have hbR := hb.trans (hb2.mono hsz)
        clear q0 q1 q2 q3 q4 q5 q6 q7 hb2
        go_wp2_with (go_at_call 26; refine (refOpen_any h HV.out k hk3 ta ra tc rc _ (HR.out.mono hbx)).mono ?_; rintro e w3 ⟨rfl, hb3⟩; rw [co])
        first
          | (go_ret2
             have e1 := starved_at (m := m) (k := k) (by rw [← HN.out]; exact hlt) HNO.out (by rw [co, HS.out]; rfl)
             rw [e1, cq]
             exact ⟨rfl, hbx.trans (hb3.mono hbx.size)⟩)
          | (go_roundw
             case rel => exact ⟨k + 1, by omega, by omega, by go_num, hbR.trans (hb3.mono hbR.size), fun i hi => by
               by_cases h : i = k
               · subst h; rw [co, HS.out]; rfl
               · exact HNO.out i (by omega)⟩
             case measure => simp [intOf]; omega)
          | (go_roundw
             case rel => exact ⟨k + 1, by omega, by omega, by go_num, hbR, fun i hi => by
               by_cases h : i = k
               · subst h; rw [co, HS.out]; rfl
               · exact HNO.out i (by omega)⟩
             case measure => simp [intOf]; omega)
    · obtain rfl : k = N := by omega
      go_wp2_with (go_at_call 37; refine (power_any _ _ (by omega)).mono ?_; rintro e w' ⟨rfl, rfl⟩)
      go_ret2
      rw [starved_no (fun i hi => HNO.out i (by rw [HN.out]; exact hi))]
      exact ⟨rfl, hbw⟩
theorem valid_fair {m : Meter} (h : m.valid = true) : m.fair := by
  simp only [Meter.valid, withinB, Bool.and_eq_true, decide_eq_true_eq] at h
  exact ⟨by omega, by omega, by omega, by omega⟩
theorem starved_zero {h : House} {m : Meter} (hz : (h.starved m).1 = 0) : (h.starved m).2 = false := by
  unfold House.starved at hz ⊢
  cases hf : (h.opens (2 ^ h.nt)).find? (h.starves m) with
  | none => rfl
  | some s =>
    rw [hf] at hz
    have h1 := List.find?_some hf
    simp only at hz
    subst hz
    rw [starves_zero] at h1
    cases h1
set_option maxHeartbeats 2000000 in
theorem refStarved_any (h : House) (m : Meter) (ta ra : Option Addr) (tc rc : Nat) (w : World) (g1 : h.nt ≤ 1000000) (g2 : h.nr ≤ 1000000) (hT : TapsAt w ta h.nt h.t) (hR : RulesAt w ra h.nr h.r) :
    Calls Try.prog 17 #[houseV h ta ra tc rc, m.val] w fun e w' => e = .returned (.tuple #[.int .i64 ((h.starvedR m).1 : Nat), .bool (h.starvedR m).2.1, .int .i64 ((h.starvedR m).2.2 : Nat)]) ∧ Below w.heap.size w w' := by
  have HT := Lib.hid hT
  have HR := Lib.hid hR
  clear hT hR
  have hb0 : Below w.heap.size w ((w.alloc (.cells #[.int .i64 h.head, .int .i64 h.drip, .slice ta h.nt tc, .slice ra h.nr rc] 25)).alloc (.cells #[.int .i64 m.start, .int .i64 m.full, .int .i64 m.loss, .int .i64 m.price] 27)) := (by repeat' (first | exact Below.refl _ _ | assumption | apply below_drewN | apply Below.drew | (refine Below.alloc ?_ ?_ _) | (refine Below.setCell ?_ ?_ _) | (simp; done) | (simp; omega) | omega))
  go_enter Try.func17, Try.ntmps17
  go_wp2_with fail
  refine (refHouse_any h ta ra tc rc _ g1 g2 (HT.out.mono hb0) (HR.out.mono hb0)).mono ?_
  rintro e w1 ⟨rfl, hb1⟩
  have hs1 := hb1.size
  simp only [World.size_alloc] at hs1
  have q0 : w1.cell? ⟨w.heap.size, 0, none⟩ = some (.int .i64 h.head) := (hb1.cell (p := ⟨w.heap.size, 0, none⟩) (by simp; omega)).trans (by simp [go_sem])
  have q1 : w1.cell? ⟨w.heap.size, 1, none⟩ = some (.int .i64 h.drip) := (hb1.cell (p := ⟨w.heap.size, 1, none⟩) (by simp; omega)).trans (by simp [go_sem])
  have q2 : w1.cell? ⟨w.heap.size, 2, none⟩ = some (.slice ta h.nt tc) := (hb1.cell (p := ⟨w.heap.size, 2, none⟩) (by simp; omega)).trans (by simp [go_sem])
  have q3 : w1.cell? ⟨w.heap.size, 3, none⟩ = some (.slice ra h.nr rc) := (hb1.cell (p := ⟨w.heap.size, 3, none⟩) (by simp; omega)).trans (by simp [go_sem])
  have p0 : w1.cell? ⟨w.heap.size + 1, 0, none⟩ = some (.int .i64 m.start) := (hb1.cell (p := ⟨w.heap.size + 1, 0, none⟩) (by simp)).trans (by simp [go_sem])
  have p1 : w1.cell? ⟨w.heap.size + 1, 1, none⟩ = some (.int .i64 m.full) := (hb1.cell (p := ⟨w.heap.size + 1, 1, none⟩) (by simp)).trans (by simp [go_sem])
  have p2 : w1.cell? ⟨w.heap.size + 1, 2, none⟩ = some (.int .i64 m.loss) := (hb1.cell (p := ⟨w.heap.size + 1, 2, none⟩) (by simp)).trans (by simp [go_sem])
  have p3 : w1.cell? ⟨w.heap.size + 1, 3, none⟩ = some (.int .i64 m.price) := (hb1.cell (p := ⟨w.heap.size + 1, 3, none⟩) (by simp)).trans (by simp [go_sem])
  have hb2 := hb0.trans (hb1.mono (by simp; omega))
  clear hb1 hb0
  by_cases hv : h.valid = true
  · have HV := Lib.hid hv
    go_wp2_with fail
    refine (refSize_any m _).mono ?_
    rintro e w2 ⟨rfl, hc1⟩
    by_cases hm : m.valid = true
    · have HM := Lib.hid hm
      have hs2 := hc1.size
      have r0 := (hc1.cell (p := ⟨w.heap.size, 0, none⟩) (by dsimp only; omega)).trans q0
      have r1 := (hc1.cell (p := ⟨w.heap.size, 1, none⟩) (by dsimp only; omega)).trans q1
      have r2 := (hc1.cell (p := ⟨w.heap.size, 2, none⟩) (by dsimp only; omega)).trans q2
      have r3 := (hc1.cell (p := ⟨w.heap.size, 3, none⟩) (by dsimp only; omega)).trans q3
      have r4 := (hc1.cell (p := ⟨w.heap.size + 1, 0, none⟩) (by dsimp only; omega)).trans p0
      have r5 := (hc1.cell (p := ⟨w.heap.size + 1, 1, none⟩) (by dsimp only; omega)).trans p1
      have r6 := (hc1.cell (p := ⟨w.heap.size + 1, 2, none⟩) (by dsimp only; omega)).trans p2
      have r7 := (hc1.cell (p := ⟨w.heap.size + 1, 3, none⟩) (by dsimp only; omega)).trans p3
      have hb3 := hb2.trans (hc1.mono hb2.size)
      clear hc1 q0 q1 q2 q3 p0 p1 p2 p3
      go_wp2_with fail
      refine (refstarved_any h HV.out m (valid_fair HM.out) ta ra tc rc _ (HT.out.mono hb3) (HR.out.mono hb3)).mono ?_
      rintro e w3 ⟨rfl, hd1⟩
      have hb4 := hb3.trans (hd1.mono hb3.size)
      have HS := Lib.hid (show h.starvedR m = if wantB (h.starved m) then (0, false, 4) else ((h.starved m).1, (h.starved m).2, 0) by simp [House.starvedR, HV.out, HM.out])
      have HZ := Lib.hid (fun hz : (h.starved m).1 = 0 => starved_zero hz)
      obtain ⟨⟨a, b⟩, hab⟩ : ∃ ab, ab = h.starved m := ⟨_, rfl⟩
      rw [← hab] at HS HZ ⊢
      dsimp only at HS HZ ⊢
      clear hab hd1 r0 r1 r2 r3 r4 r5 r6 r7
      by_cases ha : a = 0
      · have HA := Lib.hid ha
        have HW := Lib.hid (show wantB (a, b) = true by simp [wantB, ha, HZ.out ha])
        have hz : ((a : Int) == 0) = true := by simpa using ha
        go_wp2
        go_ret3
        rw [HS.out, HW.out]
        exact ⟨rfl, hb4⟩
      · have HW := Lib.hid (show wantB (a, b) = false by simp [wantB, ha])
        have hz : ((a : Int) == 0) = false := by simpa using ha
        go_wp2
        go_ret3
        rw [HS.out, HW.out]
        exact ⟨rfl, hb4⟩
    · replace hm : m.valid = false := by simpa using hm
      have HS := Lib.hid (show h.starvedR m = (0, false, 2) by simp [House.starvedR, HV.out, hm])
      have hb3 := hb2.trans (hc1.mono hb2.size)
      go_wp2
      go_ret3
      rw [HS.out]
      exact ⟨rfl, hb3⟩
  · replace hv : h.valid = false := by simpa using hv
    have HS := Lib.hid (show h.starvedR m = (0, false, 1) by simp [House.starvedR, hv])
    go_wp2
    go_ret3
    rw [HS.out]
    exact ⟨rfl, hb2⟩
end Go.Proofs.Ytckagcbjcpfjpaa
