/- Are two lists the same? Is there far more than a statement looks at? -/
import Derived.Test.YthoefcpeagclbaaW35
namespace Go.Proofs.Ythoefcpeagclbaa
open Go.RowKit
def sameS (n n' : Nat) (f g : Nat → Spn) : Bool := decide (n = n') && allB n (fun i => decide (f i = g i))
def sameI (n n' : Nat) (f g : Nat → Int) : Bool := decide (n = n') && allB n (fun i => decide (f i = g i))
set_option maxRecDepth 100000 in
set_option maxHeartbeats 2000000 in
theorem Spans_any (oa ob : Option Addr) (n n' ca cb : Nat) (f g : Nat → Spn) (w : World) (hn : n ≤ 1000000) (hn' : n' ≤ 1000000) (hF : SpnsAt w oa n f) (hG : SpnsAt w ob n' g) :
    Calls Try.prog 21 #[.slice oa n ca, .slice ob n' cb] w fun e w' => e = .returned (.bool (sameS n n' f g)) ∧ Below w.heap.size w w' := by
  have HF := Lib.hid hF
  have HG := Lib.hid hG
  clear hF hG
  by_cases hnn : n = n'
  case neg =>
    have hd : ((n : Int) == (n' : Int)) = false := by simp; omega
    have hs : sameS n n' f g = false := by simp [sameS, hnn]
    rw [hs]
    go_enter Try.func21, Try.ntmps21
    go_wp2_with fail
    go_ret
    exact ⟨rfl, (by repeat' (first | exact Below.refl _ _ | assumption | apply below_drewN | apply Below.drew | (refine Below.alloc ?_ ?_ _) | (refine Below.setCell ?_ ?_ _) | (simp; done) | (simp; omega) | omega))⟩
  subst hnn
  have ES := Lib.hid (show sameS n n f g = allB n (fun i => decide (f i = g i)) by simp [sameS])
  go_enter Try.func21, Try.ntmps21
  go_wp2_with fail
  go_loopw [5] (fun v5 wr => ∃ k : Nat, k ≤ n ∧ v5 = .int .i64 k ∧ (∀ i, i < k → f i = g i) ∧ Below w.heap.size w wr) (fun i _ => n - (intOf i).toNat)
  case atStart => exact ⟨0, Nat.zero_le _, rfl, fun i hi => absurd hi (by omega), Below.refl _ _⟩
  case round =>
    obtain ⟨k, hk, rfl, hno, hb⟩ := hrel
    have HNO := Lib.hid hno
    clear hno
    by_cases hlt : k < n
    · have hki : (k : Int) < (n : Int) := by omega
      have hki0 : (0 : Int) ≤ (k : Int) := by omega
      have hd0 : decide (k < n) = true := by simpa using hlt
      obtain ⟨b1, o1, rfl, l1, c0, c1⟩ := (HF.out.mono hb) k hlt
      obtain ⟨b2, o2, rfl, l2, d0, d1⟩ := (HG.out.mono hb) k hlt
      by_cases he : f k = g k
      · rw [he] at c0 c1
        go_wp2_with fail
        go_big_quiet (fail)
        go_wp2_with fail
        go_roundw
        case rel => exact ⟨k + 1, by omega, by go_num, fun i hi => by
          by_cases e : i = k
          · subst e; exact he
          · exact HNO.out i (by omega), below_drewN hb nq⟩
        case measure => simp [intOf]; omega
      · have HRS := Lib.hid (show allB n (fun i => decide (f i = g i)) = false from allB_false hlt (by simpa using he))
        by_cases e1 : (f k).lo = (g k).lo
        · have e2 : ¬ (f k).hi = (g k).hi := fun e2 => he (by
            have a1 : f k = ⟨(f k).lo, (f k).hi⟩ := rfl
            rw [a1, e1, e2])
          have q2 : ((f k).hi == (g k).hi) = false := by simpa using e2
          have q3 : decide ((f k).hi = (g k).hi) = false := by simpa using e2
          rw [e1] at c0
          go_wp2_with fail
          go_big_quiet (fail)
          go_wp2_with fail
          go_ret
          exact ⟨by rw [ES.out, HRS.out]; rfl, below_drewN hb nq⟩
        · have q2 : ((f k).lo == (g k).lo) = false := by simpa using e1
          have q3 : decide ((f k).lo = (g k).lo) = false := by simpa using e1
          go_wp2_with fail
          go_big_quiet (fail)
          go_wp2_with fail
          go_ret
          exact ⟨by rw [ES.out, HRS.out]; rfl, below_drewN hb nq⟩
    · have hd0 : decide (k < n) = false := by simpa using hlt
      go_wp2_with fail
      go_ret
      exact ⟨by rw [ES.out, allB_iff.2 (fun i hi => by simpa using HNO.out i (by omega))]; rfl, hb⟩
set_option maxRecDepth 100000 in
set_option maxHeartbeats 2000000 in
theorem Ints_any (oa ob : Option Addr) (n n' ca cb : Nat) (f g : Nat → Int) (w : World) (hn : n ≤ 1000000) (hn' : n' ≤ 1000000) (hF : IntsAt w oa n f) (hG : IntsAt w ob n' g) :
    Calls Try.prog 22 #[.slice oa n ca, .slice ob n' cb] w fun e w' => e = .returned (.bool (sameI n n' f g)) ∧ Below w.heap.size w w' := by
  have HF := Lib.hid hF
  have HG := Lib.hid hG
  clear hF hG
  by_cases hnn : n = n'
  case neg =>
    have hd : ((n : Int) == (n' : Int)) = false := by simp; omega
    have hs : sameI n n' f g = false := by simp [sameI, hnn]
    rw [hs]
    go_enter Try.func22, Try.ntmps22
    go_wp2_with fail
    go_ret
    exact ⟨rfl, (by repeat' (first | exact Below.refl _ _ | assumption | apply below_drewN | apply Below.drew | (refine Below.alloc ?_ ?_ _) | (refine Below.setCell ?_ ?_ _) | (simp; done) | (simp; omega) | omega))⟩
  subst hnn
  have ES := Lib.hid (show sameI n n f g = allB n (fun i => decide (f i = g i)) by simp [sameI])
  go_enter Try.func22, Try.ntmps22
  go_wp2_with fail
  go_loopw [5] (fun v5 wr => ∃ k : Nat, k ≤ n ∧ v5 = .int .i64 k ∧ (∀ i, i < k → f i = g i) ∧ Below w.heap.size w wr) (fun i _ => n - (intOf i).toNat)
  case atStart => exact ⟨0, Nat.zero_le _, rfl, fun i hi => absurd hi (by omega), Below.refl _ _⟩
  case round =>
    obtain ⟨k, hk, rfl, hno, hb⟩ := hrel
    have HNO := Lib.hid hno
    clear hno
    by_cases hlt : k < n
    · have hki : (k : Int) < (n : Int) := by omega
      have hki0 : (0 : Int) ≤ (k : Int) := by omega
      have hd0 : decide (k < n) = true := by simpa using hlt
      obtain ⟨b1, o1, rfl, l1, c0⟩ := (HF.out.mono hb) k hlt
      obtain ⟨b2, o2, rfl, l2, d0⟩ := (HG.out.mono hb) k hlt
      by_cases he : f k = g k
      · rw [he] at c0
        go_wp2_with fail
        go_big_quiet (fail)
        go_wp2_with fail
        go_roundw
        case rel => exact ⟨k + 1, by omega, by go_num, fun i hi => by
          by_cases e : i = k
          · subst e; exact he
          · exact HNO.out i (by omega), below_drewN hb nq⟩
        case measure => simp [intOf]; omega
      · have HRS := Lib.hid (show allB n (fun i => decide (f i = g i)) = false from allB_false hlt (by simpa using he))
        have q2 : (f k == g k) = false := by simpa using he
        have q3 : decide (f k = g k) = false := by simpa using he
        go_wp2_with fail
        go_big_quiet (fail)
        go_wp2_with fail
        go_ret
        exact ⟨by rw [ES.out, HRS.out]; rfl, below_drewN hb nq⟩
    · have hd0 : decide (k < n) = false := by simpa using hlt
      go_wp2_with fail
      go_ret
      exact ⟨by rw [ES.out, allB_iff.2 (fun i hi => by simpa using HNO.out i (by omega))]; rfl, hb⟩
end Go.Proofs.Ythoefcpeagclbaa
namespace Go.Proofs.Ythoefcpeagclbaa
open Go.RowKit
/-- can a meter have shown more numbers, all of which are valid? (reckoned as the program does) -/
def wideS (wide : Int) (s : Spn) : Bool := decide (0 ≤ s.lo) && (decide (s.hi ≤ 1073741824) && decide (wide < IntKind.i64.wrap (s.hi - s.lo)))
def largeR (b : Bnch) (m : Nat) (r : Nat → Spn) (wide : Int) : Bool := anyB m (fun i => wideS wide (r i)) || (decide (16 < b.n) || decide (20 < m))
theorem span_any (a b : Int) (w : World) :
    Calls Try.prog 31 #[.int .i64 a, .int .i64 b] w fun e w' => e = .returned (Spn.val ⟨a, b⟩) ∧ Below w.heap.size w w' := by
  go_enter Try.func31, Try.ntmps31
  go_wp2
  refine bodyPost_ret (v := .agg #[.int .i64 a, .int .i64 b]) (by simp [results, Try.results31, go_sem]) rfl ⟨rfl, (by repeat' (first | exact Below.refl _ _ | assumption | apply below_drewN | apply Below.drew | (refine Below.alloc ?_ ?_ _) | (refine Below.setCell ?_ ?_ _) | (simp; done) | (simp; omega) | omega))⟩
set_option maxRecDepth 100000 in
set_option maxHeartbeats 2000000 in
theorem large_any (b : Bnch) (oa : Option Addr) (cap : Nat) (or : Option Addr) (m cr : Nat) (r : Nat → Spn) (wide : Int) (w : World) (hR : SpnsAt w or m r) (hm : m ≤ 9223372036854775807) :
    Calls Try.prog 9 #[b.val oa cap, .slice or m cr, .int .i64 wide] w fun e w' => e = .returned (.bool (largeR b m r wide)) ∧ Below w.heap.size w w' := by
  have HL := Lib.hid hR
  clear hR
  have HLR := Lib.hid (show ∀ x, x = anyB m (fun i => wideS wide (r i)) → largeR b m r wide = (x || (decide (16 < b.n) || decide (20 < m))) from fun x hx => by rw [hx]; rfl)
  go_enter Try.func9, Try.ntmps9
  go_wp2_with fail
  have hbw := below_alloc1 w (.cells #[.bool b.weighs, .slice oa b.n cap, .int .i64 b.off, .int .i64 b.buoy.lo, .int .i64 b.buoy.hi, .int .i64 b.air.lo, .int .i64 b.air.hi] 26)
  have HB := Lib.hid (Box.new #[.bool b.weighs, .slice oa b.n cap, .int .i64 b.off, .int .i64 b.buoy.lo, .int .i64 b.buoy.hi, .int .i64 b.air.lo, .int .i64 b.air.hi] 26 w rfl)
  obtain ⟨W0, hW⟩ : ∃ X, X = w.alloc (.cells #[.bool b.weighs, .slice oa b.n cap, .int .i64 b.off, .int .i64 b.buoy.lo, .int .i64 b.buoy.hi, .int .i64 b.air.lo, .int .i64 b.air.hi] 26) := ⟨_, rfl⟩
  rw [← hW] at hbw HB ⊢
  clear hW
  go_loopw [7] (fun v7 wr => ∃ k : Nat, k ≤ m ∧ v7 = .int .i64 k ∧ (∀ i, i < k → wideS wide (r i) = false) ∧ Below W0.heap.size W0 wr) (fun i _ => m - (intOf i).toNat)
  case atStart => exact ⟨0, Nat.zero_le _, rfl, fun i hi => absurd hi (by omega), Below.refl _ _⟩
  case round =>
    obtain ⟨k, hk, rfl, hno, hb⟩ := hrel
    have HNO := Lib.hid hno
    clear hno
    have hbz := hbw.trans (hb.mono hbw.size)
    by_cases hlt : k < m
    · have hki : (k : Int) < (m : Int) := by omega
      have hki0 : (0 : Int) ≤ (k : Int) := by omega
      have hd0 : decide (k < m) = true := by simpa using hlt
      obtain ⟨b1, o1, rfl, l1, c0, c1⟩ := (HL.out.mono hbz) k hlt
      obtain ⟨d, hd⟩ : ∃ d, d = IntKind.i64.wrap ((r k).hi - (r k).lo) := ⟨_, rfl⟩
      have EW := Lib.hid (show wideS wide (r k) = (decide (0 ≤ (r k).lo) && (decide ((r k).hi ≤ 1073741824) && decide (wide < d))) by rw [hd]; rfl)
      have hw := hd.symm
      clear hd
      rcases q1 : decide (0 ≤ (r k).lo)
      · have HS := Lib.hid (show wideS wide (r k) = false by rw [EW.out, q1]; rfl)
        go_wp2_with fail
        go_big_quiet (fail)
        go_wp2_with fail
        go_roundw
        case rel => exact ⟨k + 1, by omega, by go_num, fun i hi => by
          by_cases e : i = k
          · subst e; exact HS.out
          · exact HNO.out i (by omega), below_drewN hb nq⟩
        case measure => simp [intOf]; omega
      · rcases q2 : decide ((r k).hi ≤ 1073741824)
        · have HS := Lib.hid (show wideS wide (r k) = false by rw [EW.out, q1, q2]; rfl)
          go_wp2_with fail
          go_big_quiet (fail)
          go_wp2_with fail
          go_roundw
          case rel => exact ⟨k + 1, by omega, by go_num, fun i hi => by
            by_cases e : i = k
            · subst e; exact HS.out
            · exact HNO.out i (by omega), below_drewN hb nq⟩
          case measure => simp [intOf]; omega
        · rcases q3 : decide (wide < d)
          · have HS := Lib.hid (show wideS wide (r k) = false by rw [EW.out, q1, q2, q3]; rfl)
            go_wp2_with fail
            go_big_quiet (fail)
            go_wp2_with fail
            go_roundw
            case rel => exact ⟨k + 1, by omega, by go_num, fun i hi => by
              by_cases e : i = k
              · subst e; exact HS.out
              · exact HNO.out i (by omega), below_drewN hb nq⟩
            case measure => simp [intOf]; omega
          · have HS := Lib.hid (show wideS wide (r k) = true by rw [EW.out, q1, q2, q3]; rfl)
            go_wp2_with fail
            go_big_quiet (fail)
            go_wp2_with fail
            go_ret
            exact ⟨by rw [HLR.out true (anyB_iff.2 ⟨k, hlt, HS.out⟩).symm]; rfl, below_drewN hbz nq⟩
    · have hki : ¬ (k : Int) < (m : Int) := by omega
      have hd0 : decide (k < m) = false := by simpa using hlt
      have HS := Lib.hid (show false = anyB m (fun i => wideS wide (r i)) by
        cases ha : anyB m (fun i => wideS wide (r i))
        · rfl
        · obtain ⟨i, hi, h9⟩ := anyB_iff.1 ha
          rw [HNO.out i (by omega)] at h9
          cases h9)
      have HB2 := HB.out.below hb
      have b1 := HB2.cell 1 rfl
      have bl := HB2.lt
      clear HB2
      rcases q1 : decide (16 < b.n)
      · rcases q2 : decide (20 < m)
        · have p1 : decide ((16 : Int) < (b.n : Int)) = false := by simp at q1 ⊢; omega
          have p2 : decide ((20 : Int) < (m : Int)) = false := by simp at q2 ⊢; omega
          go_wp2_with fail
          go_ret
          exact ⟨by rw [HLR.out _ HS.out, q1, q2]; rfl, hbz⟩
        · have p1 : decide ((16 : Int) < (b.n : Int)) = false := by simp at q1 ⊢; omega
          have p2 : decide ((20 : Int) < (m : Int)) = true := by simp at q2 ⊢; omega
          go_wp2_with fail
          go_ret
          exact ⟨by rw [HLR.out _ HS.out, q1, q2]; rfl, hbz⟩
      · have p1 : decide ((16 : Int) < (b.n : Int)) = true := by simp at q1 ⊢; omega
        go_wp2_with fail
        go_ret
        exact ⟨by rw [HLR.out _ HS.out, q1]; rfl, hbz⟩
end Go.Proofs.Ythoefcpeagclbaa
