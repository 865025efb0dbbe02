/- The set that a law takes by bits can be open; the house is valid. -/
import Derived.Test.YtckagcbjcpfjpaaL4
import Derived.Laws.BitsAllLaws
namespace Go.Proofs.Ytckagcbjcpfjpaa
open Go.RowKit
/-- the set by bits, i taps looked at -/
def House.setBy (h : House) (b : Nat) : Nat → Nat
  | 0 => 0
  | i + 1 => if bitAt b i && h.ok (h.setBy b i + 2 ^ i) then h.setBy b i + 2 ^ i else h.setBy b i
theorem setBy_lt (h : House) (b i : Nat) : h.setBy b i < 2 ^ i := by
  induction i with
  | zero => simp [House.setBy]
  | succ i ih =>
    simp only [House.setBy, Nat.pow_succ]
    split <;> omega
theorem ok_zero {h : House} (hv : h.valid = true) : h.ok 0 = true := by
  refine ok_of_none hv fun i hi => ?_
  have hm := (valid_rule hv i hi).2.2.2.1
  have e : cnt h.nt (bothB 0 (h.r i).taps.toNat) = 0 := by
    have : ∀ n, cnt n (bothB 0 (h.r i).taps.toNat) = 0 := fun n => by
      induction n with
      | zero => rfl
      | succ n ih => simp [cnt, ih, bothB, bitAt]
    exact this _
  simp only [House.overB, e]
  exact decide_eq_false (by omega)
theorem setBy_ok {h : House} (hv : h.valid = true) (b i : Nat) : h.ok (h.setBy b i) = true := by
  induction i with
  | zero => exact ok_zero hv
  | succ i ih =>
    simp only [House.setBy]
    by_cases hc : (bitAt b i && h.ok (h.setBy b i + 2 ^ i)) = true
    · rw [if_pos hc]
      simp only [Bool.and_eq_true] at hc
      exact hc.2
    · rw [if_neg hc]; exact ih
theorem u16_bit (b k : Nat) (hb : b < 65536) : (bits BinOp.and IntKind.u16 ((b : Int) / 2 ^ k) 1 == 1) = bitAt b k := by
  have e : ((b : Int) / 2 ^ k) = ((b / 2 ^ k : Nat) : Int) := by simp
  have hle := Nat.div_le_self b (2 ^ k)
  rw [e, show (1 : Int) = ((1 : Nat) : Int) from rfl, u16_and_nat _ _ (by omega) (by omega), Nat.and_one_is_mod]
  unfold bitAt
  by_cases h : b / 2 ^ k % 2 = 1
  · rw [h]; rfl
  · have h0 : b / 2 ^ k % 2 = 0 := by omega
    rw [h0]; rfl
def orFacts (k : Nat) : Bool := (List.range (2 ^ k)).all fun s => bits BinOp.or IntKind.i64 (s : Int) (wrap64 (2 ^ k)) == ((s + 2 ^ k : Nat) : Int)
theorem orFacts_all : (List.range 10).all orFacts = true := by decide +kernel
theorem or_bit {k s : Nat} (hk : k < 10) (hs : s < 2 ^ k) : bits BinOp.or IntKind.i64 (s : Int) (wrap64 (2 ^ k)) = ((s + 2 ^ k : Nat) : Int) :=
  beq_iff_eq.1 (all_lt (all_lt orFacts_all k hk) s hs)
set_option maxHeartbeats 2000000 in
theorem openBy_any (h : House) (hv : h.valid = true) (b : Nat) (hb9 : b < 65536) (ta ra : Option Addr) (tc rc : Nat) (w : World) (hR : RulesAt w ra h.nr h.r) :
    Calls Try.prog 27 #[houseV h ta ra tc rc, .int .u16 (b : Nat)] w fun e w' => e = .returned (.int .i64 (h.setBy b h.nt : Nat)) ∧ Below w.heap.size w w' := by
  have HR := Lib.hid hR
  have HV := Lib.hid hv
  have hn : h.nt ≤ 10 := (valid_nt hv).2.1
  clear hR hv
  go_enter Try.func27, Try.ntmps27
  go_wp2
  have kb := below_alloc1 w (.cells #[.int .i64 h.head, .int .i64 h.drip, .slice ta h.nt tc, .slice ra h.nr rc] 25)
  have KH := Lib.hid (HB.new h ta ra tc rc w)
  obtain ⟨W1, hW1⟩ : ∃ X, X = w.alloc (.cells #[.int .i64 h.head, .int .i64 h.drip, .slice ta h.nt tc, .slice ra h.nr rc] 25) := ⟨_, rfl⟩
  rw [← hW1] at kb KH ⊢
  clear hW1
  go_loopw [5, 10] (fun v5 v10 wr => ∃ k : Nat, k ≤ h.nt ∧ v10 = .int .i64 k ∧ v5 = .int .i64 (h.setBy b k : Nat) ∧ Below W1.heap.size W1 wr) (fun _ i _ => h.nt - (intOf i).toNat)
  case atStart => exact ⟨0, Nat.zero_le _, rfl, rfl, Below.refl _ _⟩
  case round =>
    obtain ⟨k, hk, rfl, rfl, hb⟩ := hrel
    have hbr := kb.trans (hb.mono kb.size)
    have hsz := hb.size
    by_cases hlt : k < h.nt
    · have KR := KH.out.below hb
      obtain ⟨s, hs⟩ : ∃ s, s = h.setBy b k := ⟨_, rfl⟩
      have hs2 : s < 2 ^ k := by rw [hs]; exact setBy_lt h b k
      rw [← hs]
      have hbit := u16_bit b k hb9
      rcases cb : bitAt b k
      · rw [cb] at hbit
        go_wp2
        refine wp_region_aft (by kernel_rfl) (by kernel_rfl) ?_
        repeat (go_big_quiet_step (fail))
        refine wpQuiet_nil ?_
        rintro ⟨wq, hbq⟩
        have HS := Lib.hid (show h.setBy b (k + 1) = s by rw [House.setBy, cb, ← hs]; rfl)
        go_wp2
        go_roundw
        case rel => exact ⟨k + 1, by omega, by go_num, by rw [HS.out], hb.trans (hbq.mono hsz)⟩
        case measure => simp [intOf]; omega
      · have r4 : ∀ W : Aft wr, W.val.cell? ⟨w.heap.size, 0, none⟩ = some (.int .i64 h.head) := fun W => (KR.below W.below).a0
        have r5 : ∀ W : Aft wr, W.val.cell? ⟨w.heap.size, 1, none⟩ = some (.int .i64 h.drip) := fun W => (KR.below W.below).a1
        have r6 : ∀ W : Aft wr, W.val.cell? ⟨w.heap.size, 2, none⟩ = some (.slice ta h.nt tc) := fun W => (KR.below W.below).a2
        have r7 : ∀ W : Aft wr, W.val.cell? ⟨w.heap.size, 3, none⟩ = some (.slice ra h.nr rc) := fun W => (KR.below W.below).a3
        rw [cb] at hbit
        obtain ⟨q, hq⟩ : ∃ q, q = s + 2 ^ k := ⟨_, rfl⟩
        have hor : bits BinOp.or IntKind.i64 (s : Int) (wrap64 (2 ^ k)) = (q : Int) := by rw [hq]; exact or_bit (by omega) hs2
        have hor2 : bits BinOp.or IntKind.i64 (s : Int) (IntKind.i64.wrap (2 ^ k)) = (q : Int) := by rw [IntWalk.i64_left]; exact hor
        have hq3 : q < 1024 := by
          have h1 : 2 ^ (k + 1) ≤ 2 ^ 10 := Nat.pow_le_pow_right (by omega) (by omega)
          rw [Nat.pow_succ] at h1
          omega
        have hc : ∀ W : Aft wr, Calls Try.prog 26 #[.agg #[.int .i64 h.head, .int .i64 h.drip, .slice ta h.nt tc, .slice ra h.nr rc], .int .i64 (q : Nat)] W.val fun e w' => e = .returned (.bool (h.ok q)) ∧ Below W.val.heap.size W.val w' :=
          fun W => refOpen_any h HV.out q hq3 ta ra tc rc _ (HR.out.mono (hbr.trans (W.below.mono hbr.size)))
        have HS := Lib.hid (show h.setBy b (k + 1) = if h.ok q then q else s by rw [House.setBy, cb, ← hs, ← hq]; rfl)
        clear hs hq hs2
        rcases co : h.ok q
        · rw [co] at hc HS
          have HC := Lib.hid hc
          clear hc
          go_wp2
          refine wp_region_aft (by kernel_rfl) (by kernel_rfl) ?_
          repeat (go_big_quiet_step ((go_at_call 26; exact aft_call (HC.out _))))
          refine wpQuiet_nil ?_
          rintro ⟨wq, hbq⟩
          go_wp2
          go_roundw
          case rel => exact ⟨k + 1, by omega, by go_num, by rw [HS.out]; rfl, hb.trans (hbq.mono hsz)⟩
          case measure => simp [intOf]; omega
        · rw [co] at hc HS
          have HC := Lib.hid hc
          clear hc
          go_wp2
          refine wp_region_aft (by kernel_rfl) (by kernel_rfl) ?_
          repeat (go_big_quiet_step ((go_at_call 26; exact aft_call (HC.out _))))
          refine wpQuiet_nil ?_
          rintro ⟨wq, hbq⟩
          go_wp2
          go_roundw
          case rel => exact ⟨k + 1, by omega, by go_num, by rw [HS.out]; rfl, hb.trans (hbq.mono hsz)⟩
          case measure => simp [intOf]; omega
    · obtain rfl : k = h.nt := by omega
      go_wp2
      go_ret
      exact ⟨rfl, hbr⟩
end Go.Proofs.Ytckagcbjcpfjpaa
