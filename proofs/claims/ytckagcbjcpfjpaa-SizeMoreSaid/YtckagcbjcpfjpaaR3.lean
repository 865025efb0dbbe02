/- The document's Open says what the rules of a valid house allow; the set is below 1024. -/
import Derived.Test.YtckagcbjcpfjpaaR2
import Derived.Test.YtckagcbjcpfjpaaIter
namespace Go.Proofs.Ytckagcbjcpfjpaa
open Go.RowKit
theorem has_q (s k : Nat) (w : World) (hk : k ≤ 60) (hs : s ≤ 1000000) :
    Calls Try.prog 47 #[.int .i64 (s : Nat), .int .i64 (k : Nat)] w fun e w' => e = .returned (.bool (bitAt s k)) ∧ w' = w :=
  (has_any s k w hk hs).mono fun _ _ h => ⟨h.1, h.2.symm⟩
def bothB (s g k : Nat) : Bool := bitAt s k && bitAt g k
def House.overB (h : House) (s i : Nat) : Bool := decide ((cnt h.nt (bothB s (h.r i).taps.toNat) : Int) > (h.r i).most)
theorem bitAt_test (s k : Nat) : bitAt s k = s.testBit k := by
  rw [Nat.testBit_eq_decide_div_mod_eq]
  unfold bitAt
  by_cases h : s / 2 ^ k % 2 = 1
  · rw [h]; rfl
  · have h0 : s / 2 ^ k % 2 = 0 := by omega
    rw [h0]; rfl
theorem bitAt_and (s g k : Nat) : bitAt (s &&& g) k = bothB s g k := by simp [bothB, bitAt_test, Nat.testBit_and]
theorem bitAt_high {s k n : Nat} (h : s < 2 ^ n) (hk : n ≤ k) : bitAt s k = false := by
  rw [bitAt_test]
  exact Nat.testBit_lt_two_pow (Nat.lt_of_lt_of_le h (Nat.pow_le_pow_right (by omega) hk))
theorem cnt_congr {n : Nat} {p q : Nat → Bool} (h : ∀ k, k < n → p k = q k) : cnt n p = cnt n q := by
  induction n with
  | zero => rfl
  | succ n ih => simp only [cnt]; rw [ih (fun k hk => h k (by omega)), h n (by omega)]
theorem cnt_cut {n m : Nat} {p : Nat → Bool} (hm : n ≤ m) (h : ∀ k, n ≤ k → p k = false) : cnt m p = cnt n p := by
  obtain ⟨d, rfl⟩ : ∃ d, m = n + d := ⟨m - n, by omega⟩
  clear hm
  induction d with
  | zero => rfl
  | succ d ih =>
    show cnt (n + d) p + (if p (n + d) then 1 else 0) = _
    rw [h (n + d) (by omega), ih]; simp
theorem cnt_le (n : Nat) (p : Nat → Bool) : cnt n p ≤ n := by
  induction n with
  | zero => exact Nat.le_refl _
  | succ n ih =>
    simp only [cnt]
    split <;> omega
theorem anyB_congr {n : Nat} {p q : Nat → Bool} (h : ∀ i, i < n → p i = q i) : anyB n p = anyB n q := by
  rw [Bool.eq_iff_iff, anyB_iff, anyB_iff]
  exact ⟨fun ⟨i, hi, hp⟩ => ⟨i, hi, by rw [← h i hi]; exact hp⟩, fun ⟨i, hi, hp⟩ => ⟨i, hi, by rw [h i hi]; exact hp⟩⟩
theorem ok_over {h : House} (hv : h.valid = true) (s : Nat) : h.ok s = !anyB h.nr (h.overB s) := by
  unfold House.ok allowedB
  congr 1
  refine anyB_congr fun i hi' => ?_
  have hr := valid_rule hv i hi'
  have hn := (valid_nt hv).2.1
  have e : pop (s &&& (h.r i).taps.toNat) = cnt h.nt (bothB s (h.r i).taps.toNat) := by
    unfold pop
    rw [cnt_congr (q := bothB s (h.r i).taps.toNat) (fun k _ => bitAt_and s _ k)]
    exact cnt_cut hn fun k hk => by simp [bothB, bitAt_high hr.2.1 hk]
  simp only [House.overB, e]
theorem ok_of_over {h : House} (hv : h.valid = true) {s i : Nat} (hi : i < h.nr) (ho : h.overB s i = true) : h.ok s = false := by
  rw [ok_over hv, anyB_iff.2 ⟨i, hi, ho⟩]; rfl
theorem ok_of_none {h : House} (hv : h.valid = true) {s : Nat} (ho : ∀ i, i < h.nr → h.overB s i = false) : h.ok s = true := by
  rw [ok_over hv, anyB_none ho]; rfl
theorem cnt_yes {n : Nat} {s g : Nat} (h1 : bitAt s n = true) (h2 : bitAt g n = true) : cnt (n + 1) (bothB s g) = cnt n (bothB s g) + 1 := by simp [cnt, bothB, h1, h2]
theorem cnt_no1 {n : Nat} {s g : Nat} (h1 : bitAt s n = false) : cnt (n + 1) (bothB s g) = cnt n (bothB s g) := by simp [cnt, bothB, h1]
theorem cnt_no2 {n : Nat} {s g : Nat} (h1 : bitAt g n = false) : cnt (n + 1) (bothB s g) = cnt n (bothB s g) := by simp [cnt, bothB, h1]
set_option maxHeartbeats 1000000 in
theorem refOpen_any (h : House) (hv : h.valid = true) (s : Nat) (hs : s < 1024) (ta ra : Option Addr) (tc rc : Nat) (w : World) (hR : RulesAt w ra h.nr h.r) :
    Calls Try.prog 26 #[houseV h ta ra tc rc, .int .i64 (s : Nat)] w fun e w' => e = .returned (.bool (h.ok s)) ∧ Below w.heap.size w w' := by
  have HR := Lib.hid hR
  have HV := Lib.hid hv
  have hn : h.nt ≤ 10 ∧ h.nr ≤ 8 := ⟨(valid_nt hv).2.1, (valid_nt hv).2.2.1⟩
  clear hR hv
  go_enter Try.func26, Try.ntmps26
  go_wp2
  have k0 : (w.alloc (.cells #[.int .i64 h.head, .int .i64 h.drip, .slice ta h.nt tc, .slice ra h.nr rc] 25)).cell? ⟨w.heap.size, 2, none⟩ = some (.slice ta h.nt tc) := by simp [go_sem]
  have k1 : (w.alloc (.cells #[.int .i64 h.head, .int .i64 h.drip, .slice ta h.nt tc, .slice ra h.nr rc] 25)).cell? ⟨w.heap.size, 3, none⟩ = some (.slice ra h.nr rc) := by simp [go_sem]
  have kb := below_alloc1 w (.cells #[.int .i64 h.head, .int .i64 h.drip, .slice ta h.nt tc, .slice ra h.nr rc] 25)
  have ks : (w.alloc (.cells #[.int .i64 h.head, .int .i64 h.drip, .slice ta h.nt tc, .slice ra h.nr rc] 25)).heap.size = w.heap.size + 1 := by simp
  obtain ⟨W1, hW1⟩ : ∃ X, X = w.alloc (.cells #[.int .i64 h.head, .int .i64 h.drip, .slice ta h.nt tc, .slice ra h.nr rc] 25) := ⟨_, rfl⟩
  rw [← hW1] at k0 k1 kb ks ⊢
  clear hW1
  go_loopw [5] (fun v5 wr => ∃ j : Nat, j ≤ h.nr ∧ v5 = .int .i64 j ∧ Below W1.heap.size W1 wr ∧ ∀ i, i < j → h.overB s i = false) (fun i _ => h.nr - (intOf i).toNat)
  case atStart => exact ⟨0, Nat.zero_le _, rfl, Below.refl _ _, fun i hi => by omega⟩
  case round =>
    obtain ⟨j, hj, rfl, hb, hno⟩ := hrel
    have HN := Lib.hid hno
    clear hno
    have m0 := (hb.cell (p := ⟨w.heap.size, 2, none⟩) (by dsimp only; omega)).trans k0
    have m1 := (hb.cell (p := ⟨w.heap.size, 3, none⟩) (by dsimp only; omega)).trans k1
    have hbw := kb.trans (hb.mono (by omega))
    have hsz := hb.size
    by_cases hlt : j < h.nr
    · have hb' := hb
      have HB := Lib.hid hb
      clear hb hb'
      go_wp2
      go_loopw [6, 7] (fun v6 v7 wx => ∃ m : Nat, m ≤ h.nt ∧ v7 = .int .i64 m ∧ v6 = .int .i64 (cnt m (bothB s (h.r j).taps.toNat) : Nat) ∧ Below wr.heap.size wr wx) (fun _ i _ => h.nt - (intOf i).toNat)
      case atStart => exact ⟨0, Nat.zero_le _, rfl, rfl, Below.refl _ _⟩
      case round =>
        obtain ⟨m, hm, rfl, rfl, hb2⟩ := hrel
        have q0 := (hb2.cell (p := ⟨w.heap.size, 2, none⟩) (by dsimp only; omega)).trans m0
        have q1 := (hb2.cell (p := ⟨w.heap.size, 3, none⟩) (by dsimp only; omega)).trans m1
        have hbx := hbw.trans (hb2.mono (by omega))
        have hs' := hb2.size
        clear m0 m1 k0 k1
        obtain ⟨b, off, rfl, hlt0, h0, h1⟩ := (HR.out.mono hbx) j hlt
        have hg := valid_rule HV.out j hlt
        obtain ⟨g, hgg⟩ : ∃ g, g = (h.r j).taps.toNat := ⟨_, rfl⟩
        have hov : h.overB s j = decide ((cnt h.nt (bothB s g) : Int) > (h.r j).most) := by rw [hgg]; rfl
        have HO := Lib.hid hov
        rw [← hgg] at hg ⊢
        rw [hg.1] at h0
        clear hgg hov
        obtain ⟨-, -, hg3, hg4, hg5⟩ := hg
        have hcn := cnt_le m (bothB s g)
        by_cases hlt' : m < h.nt
        · have hm60 : m ≤ 60 := by omega
          have hs6 : s ≤ 1000000 := by omega
          have hg6 : g ≤ 1000000 := by omega
          rcases ca : bitAt s m <;> rcases cb : bitAt g m
          all_goals
            go_wp2_with (go_at_call 47; refine (has_any _ _ _ (by omega) (by omega)).mono ?_; rintro e w' ⟨rfl, rfl⟩)
            go_roundw
            case rel => exact ⟨m + 1, by omega, by go_num, by first | rw [cnt_yes ca cb]; go_num | rw [cnt_no1 ca] | rw [cnt_no2 cb], hb2⟩
            case measure => simp [intOf]; omega
        · obtain rfl : m = h.nt := by omega
          by_cases hov : (cnt h.nt (bothB s g) : Int) > (h.r j).most
          · have HF := Lib.hid (ok_of_over HV.out (s := s) hlt (by rw [HO.out]; simpa using hov))
            go_wp2
            go_ret
            exact ⟨ret_bool HF.out.symm, hbx⟩
          · have HF := Lib.hid (show h.overB s j = false by rw [HO.out]; simpa using hov)
            go_wp2
            go_roundw
            case rel => exact ⟨j + 1, by omega, by go_num, HB.out.trans (hb2.mono hsz), fun i hi => by
              by_cases h : i = j
              · subst h; exact HF.out
              · exact HN.out i (by omega)⟩
            case measure => simp [intOf]; omega
    · obtain rfl : j = h.nr := by omega
      go_wp2
      go_ret
      exact ⟨ret_bool (ok_of_none HV.out HN.out).symm, hbw⟩
end Go.Proofs.Ytckagcbjcpfjpaa
