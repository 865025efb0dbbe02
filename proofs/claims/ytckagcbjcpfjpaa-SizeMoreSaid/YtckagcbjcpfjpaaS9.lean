/- What the closure of SizePair returns, and that the pair found is the cheapest and first one. -/
import Derived.Test.YtckagcbjcpfjpaaS8
namespace Go.Proofs.Ytckagcbjcpfjpaa
open Go.RowKit
/-- a slice in a block of its own -/
structure LB (oa : Option Addr) (n cap b : Nat) (W : World) : Prop where
  a0 : W.cell? ⟨b, 0, none⟩ = some (.slice oa n cap)
  ls : b < W.heap.size
theorem LB.below {oa : Option Addr} {n cap b : Nat} {W W' : World} (k : LB oa n cap b W) (hb : Below W.heap.size W W') : LB oa n cap b W' :=
  ⟨(hb.cell (p := ⟨b, 0, none⟩) k.ls).trans k.a0, Nat.lt_of_lt_of_le k.ls hb.size⟩
def House.goodP (h : House) (t : Nat → Meter) (i k : Nat) : Bool := decide (i < k) && h.pairB t i k
theorem starvedR_full {h : House} {m : Meter} (hv : h.valid = true) (hm : m.valid = true) (hf : h.fullB m = true) : h.starvedR m = (0, false, 4) := by
  rw [starvedR_ok hv hm, if_pos (show wantB (h.starved m) = true from hf)]
theorem starvedR_not {h : House} {m : Meter} (hv : h.valid = true) (hm : m.valid = true) (hf : h.fullB m = false) : ∃ a b, h.starvedR m = (a, b, 0) := by
  rw [starvedR_ok hv hm, if_neg (by rw [show wantB (h.starved m) = false from hf]; simp)]
  exact ⟨_, _, rfl⟩
set_option maxHeartbeats 2000000 in
theorem good1_any (h : House) (hv : h.valid = true) (g1 : h.nt ≤ 1000000) (g2 : h.nr ≤ 1000000) (ta ra oa : Option Addr) (tc rc n cap hb lb : Nat) (t : Nat → Meter) (hl : listB n t = true) (i k : Nat) (hi : i < n) (hk : k < n) (w : World)
    (hT : TapsAt w ta h.nt h.t) (hR : RulesAt w ra h.nr h.r) (hM : MetersAt w oa n t) (KH : HB h ta ra tc rc hb w) (KL : LB oa n cap lb w) :
    Calls Try.prog 33 #[.int .i64 (i : Nat), .int .i64 (k : Nat), .pointer (some ⟨hb, 0, none⟩), .pointer (some ⟨lb, 0, none⟩)] w fun e w' => e = .returned (.bool (h.goodP t i k)) ∧ Below w.heap.size w w' := by
  have hn12 : n ≤ 12 := by simp only [listB, Bool.and_eq_true, decide_eq_true_eq] at hl; exact hl.1
  obtain ⟨b, off, rfl, hlt0, m0, m1, m2, m3⟩ := hM k hk
  obtain ⟨b', off', hbo', hlt1, n0, n1, n2, n3⟩ := hM i hi
  cases hbo'
  have HT := Lib.hid hT
  have HR := Lib.hid hR
  have r0 : ∀ W : Aft w, W.val.cell? ⟨b, off + k * 4, none⟩ = some (.int .i64 (t k).start) := fun W => (W.below.cell hlt0).trans m0
  have r1 : ∀ W : Aft w, W.val.cell? ⟨b, off + k * 4 + 1, none⟩ = some (.int .i64 (t k).full) := fun W => (W.below.cell hlt0).trans m1
  have r2 : ∀ W : Aft w, W.val.cell? ⟨b, off + k * 4 + 2, none⟩ = some (.int .i64 (t k).loss) := fun W => (W.below.cell hlt0).trans m2
  have r3 : ∀ W : Aft w, W.val.cell? ⟨b, off + k * 4 + 3, none⟩ = some (.int .i64 (t k).price) := fun W => (W.below.cell hlt0).trans m3
  have r4 : ∀ W : Aft w, W.val.cell? ⟨hb, 0, none⟩ = some (.int .i64 h.head) := fun W => (KH.below W.below).a0
  have r5 : ∀ W : Aft w, W.val.cell? ⟨hb, 1, none⟩ = some (.int .i64 h.drip) := fun W => (KH.below W.below).a1
  have r6 : ∀ W : Aft w, W.val.cell? ⟨hb, 2, none⟩ = some (.slice ta h.nt tc) := fun W => (KH.below W.below).a2
  have r7 : ∀ W : Aft w, W.val.cell? ⟨hb, 3, none⟩ = some (.slice ra h.nr rc) := fun W => (KH.below W.below).a3
  have r8 : ∀ W : Aft w, W.val.cell? ⟨lb, 0, none⟩ = some (.slice (some ⟨b, off, none⟩) n cap) := fun W => (KL.below W.below).a0
  have p0 : ∀ W : Aft w, W.val.cell? ⟨b, off + i * 4, none⟩ = some (.int .i64 (t i).start) := fun W => (W.below.cell hlt0).trans n0
  have p1 : ∀ W : Aft w, W.val.cell? ⟨b, off + i * 4 + 1, none⟩ = some (.int .i64 (t i).full) := fun W => (W.below.cell hlt0).trans n1
  have hc : ∀ W : Aft w, Calls Try.prog 16 #[.agg #[.int .i64 h.head, .int .i64 h.drip, .slice ta h.nt tc, .slice ra h.nr rc], .agg #[.int .i64 (t k).start, .int .i64 (t k).full, .int .i64 (t k).loss, .int .i64 (t k).price]] W.val fun e w' => e = .returned (.tuple #[.int .i64 ((h.starvedR (t k)).1 : Nat), .bool (h.starvedR (t k)).2.1, .int .i64 ((h.starvedR (t k)).2.2 : Nat)]) ∧ Below W.val.heap.size W.val w' :=
    fun W => Starved_any h (t k) ta ra tc rc _ g1 g2 (HT.out.mono W.below) (HR.out.mono W.below)
  have hm := (listB_fair hl k hk).1
  have hg : h.goodP t i k = (decide (i < k) && (h.fullB (t k) && decide ((t i).start ≤ h.drip) && decide ((t k).start ≤ (t i).full))) := rfl
  have hin : (i : Int) < (n : Int) := by omega
  have hkn : (k : Int) < (n : Int) := by omega
  clear m0 m1 m2 m3 n0 n1 n2 n3 KH KL hM hT hR
  cases hf : h.fullB (t k) with
  | false =>
    obtain ⟨x, y, hxy⟩ := starvedR_not hv hm hf
    rw [hxy] at hc
    have HC := Lib.hid hc
    clear hc hxy
    by_cases hik : i < k
    · have hd : decide (i < k) = true := decide_eq_true hik
      rw [hf] at hg
      have HG := Lib.hid (show h.goodP t i k = false by rw [hg]; simp)
      clear hg hf hl hm
      go_enter Try.func33, Try.ntmps33
      go_wp2
      refine wp_region_aft (by kernel_rfl) (by kernel_rfl) ?_
      repeat (go_big_quiet_step ((go_at_call 16; exact aft_call (HC.out _))))
      refine wpQuiet_nil ?_
      rintro ⟨wq, hbq⟩
      have s0 := r4 ⟨wq, hbq⟩
      have s1 := r5 ⟨wq, hbq⟩
      have s2 := r8 ⟨wq, hbq⟩
      have s3 := p0 ⟨wq, hbq⟩
      have s4 := p1 ⟨wq, hbq⟩
      have s5 := r0 ⟨wq, hbq⟩
      dsimp only at s0 s1 s2 s3 s4 s5
      go_wp2
      go_big_quiet (fail)
      go_wp2
      go_ret
      exact ⟨ret_bool HG.out.symm, below_drewN hbq _⟩
    · have hd : decide (i < k) = false := decide_eq_false hik
      have HG := Lib.hid (show h.goodP t i k = false by rw [hg, hd]; rfl)
      clear hg hf hl hm
      go_enter Try.func33, Try.ntmps33
      go_wp2
      refine wp_region_aft (by kernel_rfl) (by kernel_rfl) ?_
      repeat (go_big_quiet_step ((go_at_call 16; exact aft_call (HC.out _))))
      refine wpQuiet_nil ?_
      rintro ⟨wq, hbq⟩
      have s0 := r4 ⟨wq, hbq⟩
      have s1 := r5 ⟨wq, hbq⟩
      have s2 := r8 ⟨wq, hbq⟩
      have s3 := p0 ⟨wq, hbq⟩
      have s4 := p1 ⟨wq, hbq⟩
      have s5 := r0 ⟨wq, hbq⟩
      dsimp only at s0 s1 s2 s3 s4 s5
      go_wp2
      go_big_quiet (fail)
      go_wp2
      go_ret
      exact ⟨ret_bool HG.out.symm, below_drewN hbq _⟩
  | true =>
    rw [starvedR_full hv hm hf] at hc
    have HC := Lib.hid hc
    clear hc
    by_cases hik : i < k
    · have hd : decide (i < k) = true := decide_eq_true hik
      by_cases hst : (t i).start ≤ h.drip
      · have hd2 : decide ((t i).start ≤ h.drip) = true := decide_eq_true hst
        by_cases hsf : (t k).start ≤ (t i).full
        · have hd3 : decide ((t k).start ≤ (t i).full) = true := decide_eq_true hsf
          have HG := Lib.hid (show h.goodP t i k = true by rw [hg, hd, hf, hd2, hd3]; rfl)
          clear hg hf hl hm
          go_enter Try.func33, Try.ntmps33
          go_wp2
          refine wp_region_aft (by kernel_rfl) (by kernel_rfl) ?_
          repeat (go_big_quiet_step ((go_at_call 16; exact aft_call (HC.out _))))
          refine wpQuiet_nil ?_
          rintro ⟨wq, hbq⟩
          have s0 := r4 ⟨wq, hbq⟩
          have s1 := r5 ⟨wq, hbq⟩
          have s2 := r8 ⟨wq, hbq⟩
          have s3 := p0 ⟨wq, hbq⟩
          have s4 := p1 ⟨wq, hbq⟩
          have s5 := r0 ⟨wq, hbq⟩
          dsimp only at s0 s1 s2 s3 s4 s5
          go_wp2
          go_big_quiet (fail)
          go_wp2
          go_ret
          exact ⟨ret_bool HG.out.symm, below_drewN hbq _⟩
        · have hd3 : decide ((t k).start ≤ (t i).full) = false := decide_eq_false hsf
          have HG := Lib.hid (show h.goodP t i k = false by rw [hg, hd, hf, hd2, hd3]; rfl)
          clear hg hf hl hm
          go_enter Try.func33, Try.ntmps33
          go_wp2
          refine wp_region_aft (by kernel_rfl) (by kernel_rfl) ?_
          repeat (go_big_quiet_step ((go_at_call 16; exact aft_call (HC.out _))))
          refine wpQuiet_nil ?_
          rintro ⟨wq, hbq⟩
          have s0 := r4 ⟨wq, hbq⟩
          have s1 := r5 ⟨wq, hbq⟩
          have s2 := r8 ⟨wq, hbq⟩
          have s3 := p0 ⟨wq, hbq⟩
          have s4 := p1 ⟨wq, hbq⟩
          have s5 := r0 ⟨wq, hbq⟩
          dsimp only at s0 s1 s2 s3 s4 s5
          go_wp2
          go_big_quiet (fail)
          go_wp2
          go_ret
          exact ⟨ret_bool HG.out.symm, below_drewN hbq _⟩
      · have hd2 : decide ((t i).start ≤ h.drip) = false := decide_eq_false hst
        have HG := Lib.hid (show h.goodP t i k = false by rw [hg, hd, hf, hd2]; rfl)
        clear hg hf hl hm
        go_enter Try.func33, Try.ntmps33
        go_wp2
        refine wp_region_aft (by kernel_rfl) (by kernel_rfl) ?_
        repeat (go_big_quiet_step ((go_at_call 16; exact aft_call (HC.out _))))
        refine wpQuiet_nil ?_
        rintro ⟨wq, hbq⟩
        have s0 := r4 ⟨wq, hbq⟩
        have s1 := r5 ⟨wq, hbq⟩
        have s2 := r8 ⟨wq, hbq⟩
        have s3 := p0 ⟨wq, hbq⟩
        have s4 := p1 ⟨wq, hbq⟩
        have s5 := r0 ⟨wq, hbq⟩
        dsimp only at s0 s1 s2 s3 s4 s5
        go_wp2
        go_big_quiet (fail)
        go_wp2
        go_ret
        exact ⟨ret_bool HG.out.symm, below_drewN hbq _⟩
    · have hd : decide (i < k) = false := decide_eq_false hik
      have HG := Lib.hid (show h.goodP t i k = false by rw [hg, hd]; rfl)
      clear hg hf hl hm
      go_enter Try.func33, Try.ntmps33
      go_wp2
      refine wp_region_aft (by kernel_rfl) (by kernel_rfl) ?_
      repeat (go_big_quiet_step ((go_at_call 16; exact aft_call (HC.out _))))
      refine wpQuiet_nil ?_
      rintro ⟨wq, hbq⟩
      have s0 := r4 ⟨wq, hbq⟩
      have s1 := r5 ⟨wq, hbq⟩
      have s2 := r8 ⟨wq, hbq⟩
      have s3 := p0 ⟨wq, hbq⟩
      have s4 := p1 ⟨wq, hbq⟩
      have s5 := r0 ⟨wq, hbq⟩
      dsimp only at s0 s1 s2 s3 s4 s5
      go_wp2
      go_big_quiet (fail)
      go_wp2
      go_ret
      exact ⟨ret_bool HG.out.symm, below_drewN hbq _⟩
end Go.Proofs.Ytckagcbjcpfjpaa
