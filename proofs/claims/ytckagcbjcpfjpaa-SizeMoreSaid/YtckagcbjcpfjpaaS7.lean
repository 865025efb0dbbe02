/- What the closure of SizeStarved returns, and plain facts on the first starved set. -/
import Derived.Test.YtckagcbjcpfjpaaO1
namespace Go.Proofs.Ytckagcbjcpfjpaa
open Go.RowKit
set_option maxHeartbeats 2000000 in
theorem starves1_any (h : House) (hv : h.valid = true) (m : Meter) (hm : m.fair) (s : Nat) (hs : s < 1024) (ta ra : Option Addr) (tc rc hb mb : Nat) (w : World) (hT : TapsAt w ta h.nt h.t) (KH : HB h ta ra tc rc hb w) (KM : MB m mb w) :
    Calls Try.prog 31 #[.int .i64 (s : Nat), .pointer (some ⟨hb, 0, none⟩), .pointer (some ⟨mb, 0, none⟩)] w fun e w' => e = .returned (.tuple #[.bool (h.starves m s), .bool (!h.tooMuch m s)]) ∧ Below w.heap.size w w' := by
  have HT := Lib.hid hT
  have HKH := Lib.hid KH
  have HKM := Lib.hid KM
  obtain ⟨m1, m2, m3, m4⟩ := hm
  have n1 := valid_nt hv
  have n2 := fhi_bd hv s
  have n3 := need_bd hv s
  have p1 := mulb (a := m.loss) (b := h.fhi s) (x := 10000) (y := 1000000) m3 m4 n2.1 n2.2
  have p2 := mulb (a := m.loss * h.fhi s) (b := h.fhi s) (x := 10000 * 1000000) (y := 1000000) p1.1 p1.2 n2.1 n2.2
  have p3 := mulsb (a := h.head - h.need s) (b := m.full) (x := 10000) (y := 1000000) (by omega) (by omega) (by omega) m2
  have p4 := mulsb (a := (h.head - h.need s) * m.full) (b := m.full) (x := 10000 * 1000000) (y := 1000000) p3.1 p3.2 (by omega) m2
  obtain ⟨a0, a1, a2, a3, als⟩ := KH
  clear hT KM
  go_enter Try.func31, Try.ntmps31
  go_wp2_with fail
  refine (refFlow_any h hv s hs ta ra tc rc _ HT.out).mono ?_
  rintro e w1 ⟨rfl, hb1⟩
  have hbz : Below w.heap.size w (w1.alloc (.cells #[.int .i64 (h.flo s), .int .i64 (h.fhi s)] 31)) := hb1.alloc hb1.size _
  obtain ⟨b0, b1, b2, b3, bls⟩ := HKH.out.below hb1
  obtain ⟨c0, c1, c2, c3, cls⟩ := HKM.out.below hb1
  have hne0 : ¬ hb = w1.heap.size := by omega
  have hne1 : ¬ mb = w1.heap.size := by omega
  clear hb1 a0 a1 a2 a3
  by_cases hz : s = 0
  · have hz1 : ((s : Int) != 0) = false := by simp [hz]
    have HS := Lib.hid (show h.starves m s = false by simp [House.starves, hz])
    clear hz
    go_wp2
    go_ret2
    exact ⟨by rw [HS.out]; rfl, by first | exact hbz | exact hbz.drew | exact (by repeat' (first | exact Below.refl _ _ | assumption | apply below_drewN | apply Below.drew | (refine Below.alloc ?_ ?_ _) | (refine Below.setCell ?_ ?_ _) | (simp; done) | (simp; omega) | omega))⟩
  · have hz1 : ((s : Int) != 0) = true := by simpa using hz
    by_cases hq : m.full < h.fhi s
    · have HS := Lib.hid (show h.starves m s = true by rw [starves_eq (by omega), show h.tooMuch m s = true from decide_eq_true hq]; rfl)
      have HQ := Lib.hid (show h.tooMuch m s = true from decide_eq_true hq)
      clear hz
      go_wp2
      go_ret2
      exact ⟨by rw [HS.out, HQ.out]; rfl, by first | exact hbz | exact hbz.drew | exact (by repeat' (first | exact Below.refl _ _ | assumption | apply below_drewN | apply Below.drew | (refine Below.alloc ?_ ?_ _) | (refine Below.setCell ?_ ?_ _) | (simp; done) | (simp; omega) | omega))⟩
    · have HQ := Lib.hid (show h.tooMuch m s = false from decide_eq_false hq)
      have hd1 : decide (m.full < h.fhi s) = false := decide_eq_false hq
      by_cases hp : (h.head - h.need s) * m.full * m.full < m.loss * h.fhi s * h.fhi s
      · have HS := Lib.hid (show h.starves m s = true by rw [starves_eq (by omega), show h.pressB m s = true from decide_eq_true hp]; simp)
        clear hz
        go_wp2
        go_ret2
        exact ⟨by rw [HS.out, HQ.out]; rfl, by first | exact hbz | exact hbz.drew | exact (by repeat' (first | exact Below.refl _ _ | assumption | apply below_drewN | apply Below.drew | (refine Below.alloc ?_ ?_ _) | (refine Below.setCell ?_ ?_ _) | (simp; done) | (simp; omega) | omega))⟩
      · have hd2 : decide ((h.head - h.need s) * m.full * m.full < m.loss * h.fhi s * h.fhi s) = false := decide_eq_false hp
        have HS := Lib.hid (show h.starves m s = false by rw [starves_eq (by omega), HQ.out, show h.pressB m s = false from decide_eq_false hp]; rfl)
        clear hz
        go_wp2
        go_ret2
        exact ⟨by rw [HS.out, HQ.out]; rfl, by first | exact hbz | exact hbz.drew | exact (by repeat' (first | exact Below.refl _ _ | assumption | apply below_drewN | apply Below.drew | (refine Below.alloc ?_ ?_ _) | (refine Below.setCell ?_ ?_ _) | (simp; done) | (simp; omega) | omega))⟩
theorem starvedR_ok {h : House} {m : Meter} (hv : h.valid = true) (hm : m.valid = true) : h.starvedR m = if wantB (h.starved m) then (0, false, 4) else ((h.starved m).1, (h.starved m).2, 0) := by simp [House.starvedR, hv, hm]
theorem find_first {n k : Nat} {p : Nat → Bool} (hf : (List.range n).find? p = some k) : ∀ i, i < k → p i = false := by
  have hk := List.mem_range.1 (List.mem_of_find?_eq_some hf)
  intro i
  induction i using Nat.strongRecOn with
  | ind i ih =>
    intro hi
    cases hp : p i with
    | false => rfl
    | true =>
      have h1 := find_range (n := n) (k := i) (by omega) (fun j hj => ih j hj (by omega)) hp
      rw [hf] at h1
      simp only [Option.some.injEq] at h1
      omega
/-- what the first starved set is -/
theorem starved_is {h : House} {m : Meter} (hw : wantB (h.starved m) = false) : ∃ k, h.starved m = (k, !h.tooMuch m k) ∧ 1 ≤ k ∧ k < 2 ^ h.nt ∧ h.ok k = true ∧ h.starves m k = true ∧ ∀ i, i < k → h.ok i = true → h.starves m i = false := by
  unfold House.starved at hw ⊢
  rw [starved_find] at hw ⊢
  cases hf : (List.range (2 ^ h.nt)).find? (fun s => h.ok s && h.starves m s) with
  | none => rw [hf] at hw; cases hw
  | some k =>
    have h1 := List.find?_some hf
    have h2 := List.mem_range.1 (List.mem_of_find?_eq_some hf)
    simp only [Bool.and_eq_true] at h1
    refine ⟨k, rfl, ?_, h2, h1.1, h1.2, fun i hi ho => ?_⟩
    · rcases Nat.eq_zero_or_pos k with h0 | h0
      · rw [h0, starves_zero] at h1; cases h1.2
      · exact h0
    · cases hs : h.starves m i with
      | false => rfl
      | true =>
        have h7 := find_first hf i hi
        rw [ho, hs] at h7
        cases h7
theorem full_no {h : House} {m : Meter} (hw : wantB (h.starved m) = true) (i : Nat) (hi : i < 2 ^ h.nt) (ho : h.ok i = true) : h.starves m i = false :=
  (fullB_iff h m).1 hw i (by simp [House.opens, hi, ho])
end Go.Proofs.Ytckagcbjcpfjpaa
