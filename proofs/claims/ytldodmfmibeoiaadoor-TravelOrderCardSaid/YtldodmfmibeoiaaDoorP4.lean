/- Travel, plain: what the document fixes of its example. -/
import Derived.Test.YtldodmfmibeoiaaDoorV15
import Derived.Test.YtldodmfmibeoiaaDoorV11
import Derived.Test.YtldodmfmibeoiaaDoorV9
namespace Go.Proofs.YtldodmfmibeoiaaDoor
open Go.RowKit
theorem smp_valid : smp.valid = true := by kernel_rfl
theorem smp_err0 : smp.err 0 = 0 := by kernel_rfl
theorem smp_err1 : smp.err 1 = 0 := by kernel_rfl
theorem smp_err2 : smp.err 2 = 0 := by kernel_rfl
theorem smp_errN : smp.err (-1) = 0 := by kernel_rfl
/-- a greatest difference that is reached is what the table says -/
theorem Rnd.D_eq {r : Rnd} (hv : r.valid = true) {off : Int} (h : okT (r.D off) = true) {a b : Nat} (ha : a < 13) (hb : b < 13) {v : Int} (h1 : ∀ x, r.CA off x → x a - x b ≤ v) (h2 : ∃ x, r.CA off x ∧ x a - x b = v) : r.D off a b < 1099511627776 ∧ r.D off a b = v := by
  by_cases hf : r.D off a b < 1099511627776
  · refine ⟨hf, ?_⟩
    obtain ⟨k1, x, k2, k3⟩ := Rnd.D_lt hv h ha hb hf
    obtain ⟨y, k4, k5⟩ := h2
    have := h1 x k2
    have := k1 y k4
    omega
  · obtain ⟨x, k1, k2⟩ := Rnd.D_far hv h ha hb hf (v + 1)
    have := h1 x k1
    omega
theorem smp_out {off : Int} {p : Nat → Prop} {x : Nat → Int} (h : smp.C off p x) :
    ((0 : Int) ≠ off → x 1 - x 0 ≤ 10 ∧ x 0 - x 1 ≤ 10) ∧ ((1 : Int) ≠ off → x 2 - x 0 ≤ 10 ∧ x 0 - x 2 ≤ 10) ∧ ((2 : Int) ≠ off → x 3 - x 0 ≤ 10 ∧ x 0 - x 3 ≤ 10) ∧
    (p 0 → x 7 - x 1 ≤ 104 ∧ x 1 - x 7 ≤ -100) ∧ (p 1 → x 7 - x 2 ≤ 102 ∧ x 2 - x 7 ≤ -98) ∧ (p 2 → x 7 - x 3 ≤ 144 ∧ x 3 - x 7 ≤ -140) ∧
    (p 3 → x 8 - x 1 ≤ -46 ∧ x 1 - x 8 ≤ 50) ∧ (p 4 → x 8 - x 3 ≤ -4 ∧ x 3 - x 8 ≤ 8) ∧ (p 5 → x 8 - x 2 ≤ -49 ∧ x 2 - x 8 ≤ 53) :=
  ⟨fun hh => h.1 0 (by decide) hh, fun hh => h.1 1 (by decide) hh, fun hh => h.1 2 (by decide) hh, fun hh => h.2 0 (by decide) hh, fun hh => h.2 1 (by decide) hh, fun hh => h.2 2 (by decide) hh, fun hh => h.2 3 (by decide) hh, fun hh => h.2 4 (by decide) hh, fun hh => h.2 5 (by decide) hh⟩
theorem smp_in {off : Int} {p : Nat → Prop} {x : Nat → Int} (a0 : (0 : Int) ≠ off → x 1 - x 0 ≤ 10 ∧ x 0 - x 1 ≤ 10) (a1 : (1 : Int) ≠ off → x 2 - x 0 ≤ 10 ∧ x 0 - x 2 ≤ 10) (a2 : (2 : Int) ≠ off → x 3 - x 0 ≤ 10 ∧ x 0 - x 3 ≤ 10)
    (t0 : p 0 → x 7 - x 1 ≤ 104 ∧ x 1 - x 7 ≤ -100) (t1 : p 1 → x 7 - x 2 ≤ 102 ∧ x 2 - x 7 ≤ -98) (t2 : p 2 → x 7 - x 3 ≤ 144 ∧ x 3 - x 7 ≤ -140)
    (t3 : p 3 → x 8 - x 1 ≤ -46 ∧ x 1 - x 8 ≤ 50) (t4 : p 4 → x 8 - x 3 ≤ -4 ∧ x 3 - x 8 ≤ 8) (t5 : p 5 → x 8 - x 2 ≤ -49 ∧ x 2 - x 8 ≤ 53) : smp.C off p x := by
  refine ⟨fun b hb hne => ?_, fun k hk hp => ?_⟩
  · have hb : (b : Int) < 3 := hb
    rcases (by omega : b = 0 ∨ b = 1 ∨ b = 2) with rfl | rfl | rfl
    · exact a0 hne
    · exact a1 hne
    · exact a2 hne
  · have hk : k < 6 := hk
    rcases (by omega : k = 0 ∨ k = 1 ∨ k = 2 ∨ k = 3 ∨ k = 4 ∨ k = 5) with rfl | rfl | rfl | rfl | rfl | rfl
    · exact t0 hp
    · exact t1 hp
    · exact t2 hp
    · exact t3 hp
    · exact t4 hp
    · exact t5 hp
/-- numbers by list -/
def lx (l : List Int) (i : Nat) : Int := l.getD i 0
theorem smp_no {off : Int} (h : off = -1 ∨ off = 0 ∨ off = 1) : okT (smp.D off) = false := by
  cases h9 : okT (smp.D off)
  · rfl
  · obtain ⟨x, hx⟩ := (Rnd.D_ok smp_valid off).1 h9
    obtain ⟨a0, a1, a2, t0, t1, t2, -⟩ := smp_out hx
    have t0 := t0 trivial
    have t1 := t1 trivial
    have t2 := t2 trivial
    have a2 := a2 (by omega)
    rcases h with rfl | rfl | rfl
    · have a0 := a0 (by omega); omega
    · have a1 := a1 (by omega); omega
    · have a0 := a0 (by omega); omega
theorem smp_yes : okT (smp.D 2) = true := (Rnd.D_ok smp_valid 2).2 ⟨lx [0, 0, 2, -41, 0, 0, 0, 102, -48], smp_in (by decide) (by decide) (by decide) (by decide) (by decide) (by decide) (by decide) (by decide) (by decide)⟩
theorem smp_fits : smp.fitsB 1 = false := by
  unfold Rnd.fitsB
  rw [smp_no (by omega)]
  simp
theorem smp_susp : smp.susp 3 = [2] := by
  have h0 : okT (smp.D ((0 : Nat) : Int)) = false := smp_no (by omega)
  have h1 : okT (smp.D ((1 : Nat) : Int)) = false := smp_no (by omega)
  have h2 : okT (smp.D ((2 : Nat) : Int)) = true := smp_yes
  rw [Rnd.susp_some h2, Rnd.susp_none h1, Rnd.susp_none h0]
  rfl
theorem smp_convict : smp.convict = (2, 0) := by
  unfold Rnd.convict
  rw [if_neg (by rw [smp_errN]; simp), smp_no (by omega)]
  have : smp.nb.toNat = 3 := rfl
  rw [this, smp_susp]
  rfl
theorem smp_tell (k : Nat) (hk : k < 13) (turn : Bool) (a b : Int) (h1 : ∀ x, smp.CA 2 x → x k - x 0 ≤ b) (h2 : ∃ x, smp.CA 2 x ∧ x k - x 0 = b) (h3 : ∀ x, smp.CA 2 x → x 0 - x k ≤ a) (h4 : ∃ x, smp.CA 2 x ∧ x 0 - x k = a) :
    tellD (smp.D 2) k turn = if turn then ⟨-b, a, 0⟩ else ⟨-a, b, 0⟩ := by
  obtain ⟨e1, e2⟩ := Rnd.D_eq smp_valid smp_yes hk (by omega) h1 h2
  obtain ⟨e3, e4⟩ := Rnd.D_eq smp_valid smp_yes (by omega) hk h3 h4
  unfold tellD
  rw [if_pos ⟨e1, e3⟩, e2, e4]
theorem smp_fault : smp.fault 2 2 = ⟨31, 54, 0⟩ := by
  show smp.tell 2 2 3 3 true = _
  unfold Rnd.tell
  rw [if_neg (by rw [smp_err2]; simp), if_neg (by decide), if_neg (by rw [smp_yes]; simp)]
  rw [smp_tell 3 (by omega) true 54 (-31)]
  · rfl
  · intro x hx
    obtain ⟨a0, a1, a2, t0, t1, t2, t3, t4, t5⟩ := smp_out hx
    have a0 := a0 (by omega)
    have a1 := a1 (by omega)
    have t0 := t0 trivial
    have t1 := t1 trivial
    have t2 := t2 trivial
    have t3 := t3 trivial
    have t4 := t4 trivial
    have t5 := t5 trivial
    omega
  · exact ⟨lx [0, 8, 10, -31, 0, 0, 0, 109, -39], smp_in (by decide) (by decide) (by decide) (by decide) (by decide) (by decide) (by decide) (by decide) (by decide), by decide⟩
  · intro x hx
    obtain ⟨a0, a1, a2, t0, t1, t2, t3, t4, t5⟩ := smp_out hx
    have a0 := a0 (by omega)
    have a1 := a1 (by omega)
    have t0 := t0 trivial
    have t1 := t1 trivial
    have t2 := t2 trivial
    have t3 := t3 trivial
    have t4 := t4 trivial
    have t5 := t5 trivial
    omega
  · exact ⟨lx [0, -10, -10, -54, 0, 0, 0, 90, -60], smp_in (by decide) (by decide) (by decide) (by decide) (by decide) (by decide) (by decide) (by decide) (by decide), by decide⟩
theorem smp_error : smp.error 2 1 = ⟨-60, -39, 0⟩ := by
  show smp.tell 2 1 2 8 false = _
  unfold Rnd.tell
  rw [if_neg (by rw [smp_err2]; simp), if_neg (by decide), if_neg (by rw [smp_yes]; simp)]
  rw [smp_tell 8 (by omega) false 60 (-39)]
  · rfl
  · intro x hx
    obtain ⟨a0, a1, a2, t0, t1, t2, t3, t4, t5⟩ := smp_out hx
    have a0 := a0 (by omega)
    have a1 := a1 (by omega)
    have t0 := t0 trivial
    have t1 := t1 trivial
    have t2 := t2 trivial
    have t3 := t3 trivial
    have t4 := t4 trivial
    have t5 := t5 trivial
    omega
  · exact ⟨lx [0, 8, 10, -31, 0, 0, 0, 109, -39], smp_in (by decide) (by decide) (by decide) (by decide) (by decide) (by decide) (by decide) (by decide) (by decide), by decide⟩
  · intro x hx
    obtain ⟨a0, a1, a2, t0, t1, t2, t3, t4, t5⟩ := smp_out hx
    have a0 := a0 (by omega)
    have a1 := a1 (by omega)
    have t0 := t0 trivial
    have t1 := t1 trivial
    have t2 := t2 trivial
    have t3 := t3 trivial
    have t4 := t4 trivial
    have t5 := t5 trivial
    omega
  · exact ⟨lx [0, -10, -10, -54, 0, 0, 0, 90, -60], smp_in (by decide) (by decide) (by decide) (by decide) (by decide) (by decide) (by decide) (by decide) (by decide), by decide⟩
theorem small_sets (m : Nat) (q : Nat → Bool) (h : allP q 0 m = true) (x : Nat) (hx : x < m) : q x = true := allP_spec h x (by omega) (by omega)
theorem set6 : allP (fun x => !(decide (sizeN x < 2) || (decide (sizeN x = 2) && !beforeB 6 x)) || (decide (x &&& 43 = x) || decide (x &&& 17 = x) || decide (x &&& 5 = x) || decide (x = 6))) 0 64 = true := by kernel_rfl
theorem set5 : allP (fun x => !(decide (sizeN x < 2) || (decide (sizeN x = 2) && !beforeB 5 x)) || (decide (x &&& 43 = x) || decide (x = 16) || decide (x = 4) || decide (x = 5))) 0 64 = true := by kernel_rfl
theorem in_mask {x m k : Nat} (hx : x < 64) (h : x &&& m = x) (hk : k ∈ mem2 x) : m.testBit k = true := by
  have h1 := (mem2_iff x (by omega)).1 hk
  rw [← h, Nat.testBit_and] at h1
  simp only [Bool.and_eq_true] at h1
  exact h1.2
theorem smp_ok_of {off : Int} {s : Nat} (hs : s < 64) {x : Nat → Int} (h : smp.C off (fun k => k ∈ mem2 s) x) : okT (smp.tab off s) = true := (Rnd.tab_ok smp_valid hs).2 ⟨x, h⟩
theorem smp_w1 {off : Int} {s : Nat} (hs : s < 64) (hm : s &&& 43 = s) : okT (smp.tab off s) = true :=
  smp_ok_of hs (x := lx [0, 0, 2, 0, 0, 0, 0, 102, -48]) (smp_in (fun _ => by decide) (fun _ => by decide) (fun _ => by decide) (fun _ => by decide) (fun _ => by decide) (fun h => absurd (in_mask hs hm h) (by decide)) (fun _ => by decide) (fun h => absurd (in_mask hs hm h) (by decide)) (fun _ => by decide))
theorem smp_w2 {off : Int} {s : Nat} (hs : s < 64) (hm : s &&& 17 = s) : okT (smp.tab off s) = true :=
  smp_ok_of hs (x := lx [0, 0, 0, 0, 0, 0, 0, 102, -6]) (smp_in (fun _ => by decide) (fun _ => by decide) (fun _ => by decide) (fun _ => by decide) (fun h => absurd (in_mask hs hm h) (by decide)) (fun h => absurd (in_mask hs hm h) (by decide)) (fun h => absurd (in_mask hs hm h) (by decide)) (fun _ => by decide) (fun h => absurd (in_mask hs hm h) (by decide)))
theorem smp_w3 {s : Nat} (hs : s < 64) (hm : s &&& 5 = s) : okT (smp.tab 0 s) = true :=
  smp_ok_of hs (x := lx [0, 40, 0, 0, 0, 0, 0, 142, 0]) (smp_in (fun h => absurd rfl h) (fun _ => by decide) (fun _ => by decide) (fun _ => by decide) (fun h => absurd (in_mask hs hm h) (by decide)) (fun _ => by decide) (fun h => absurd (in_mask hs hm h) (by decide)) (fun h => absurd (in_mask hs hm h) (by decide)) (fun h => absurd (in_mask hs hm h) (by decide)))
theorem smp_w4 {s : Nat} (hs : s < 64) (hm : s &&& 4 = s) : okT (smp.tab (-1) s) = true :=
  smp_ok_of hs (x := lx [0, 0, 0, 0, 0, 0, 0, 142, 0]) (smp_in (fun _ => by decide) (fun _ => by decide) (fun _ => by decide) (fun h => absurd (in_mask hs hm h) (by decide)) (fun h => absurd (in_mask hs hm h) (by decide)) (fun _ => by decide) (fun h => absurd (in_mask hs hm h) (by decide)) (fun h => absurd (in_mask hs hm h) (by decide)) (fun h => absurd (in_mask hs hm h) (by decide)))
theorem smp_bad6 : okT (smp.tab 0 6) = false := by
  cases h9 : okT (smp.tab 0 6)
  · rfl
  · obtain ⟨x, hx⟩ := (Rnd.tab_ok smp_valid (by decide)).1 h9
    obtain ⟨a0, a1, a2, t0, t1, t2, -⟩ := smp_out hx
    have t1 := t1 ((mem2_iff 6 (by omega)).2 (by decide))
    have t2 := t2 ((mem2_iff 6 (by omega)).2 (by decide))
    have a1 := a1 (by omega)
    have a2 := a2 (by omega)
    omega
theorem smp_bad5 : okT (smp.tab (-1) 5) = false := by
  cases h9 : okT (smp.tab (-1) 5)
  · rfl
  · obtain ⟨x, hx⟩ := (Rnd.tab_ok smp_valid (by decide)).1 h9
    obtain ⟨a0, a1, a2, t0, t1, t2, -⟩ := smp_out hx
    have t0 := t0 ((mem2_iff 5 (by omega)).2 (by decide))
    have t2 := t2 ((mem2_iff 5 (by omega)).2 (by decide))
    have a0 := a0 (by omega)
    have a2 := a2 (by omega)
    omega
theorem smp_clash0 {best : Nat} (h : ClB smp 0 best) : best = 6 := by
  obtain ⟨h1, h2, h3⟩ := h
  have h1 : best < 64 := h1
  have h4 := h3 6 (by decide) smp_bad6
  have e6 : sizeN 6 = 2 := by kernel_rfl
  rw [e6] at h4
  have h5 := small_sets 64 _ set6 best h1
  have h6 : (decide (sizeN best < 2) || (decide (sizeN best = 2) && !beforeB 6 best)) = true := by
    rcases h4 with h4 | ⟨h4, h4'⟩
    · rw [decide_eq_true h4]; rfl
    · rw [h4', decide_eq_true h4.symm]; simp
  simp only [h6, Bool.not_true, Bool.false_or, Bool.or_eq_true, decide_eq_true_eq] at h5
  rcases h5 with ((h5 | h5) | h5) | h5
  · rw [smp_w1 h1 h5] at h2; cases h2
  · rw [smp_w2 h1 h5] at h2; cases h2
  · rw [smp_w3 h1 h5] at h2; cases h2
  · exact h5
theorem smp_clashN {best : Nat} (h : ClB smp (-1) best) : best = 5 := by
  obtain ⟨h1, h2, h3⟩ := h
  have h1 : best < 64 := h1
  have h4 := h3 5 (by decide) smp_bad5
  have e6 : sizeN 5 = 2 := by kernel_rfl
  rw [e6] at h4
  have h5 := small_sets 64 _ set5 best h1
  have h6 : (decide (sizeN best < 2) || (decide (sizeN best = 2) && !beforeB 5 best)) = true := by
    rcases h4 with h4 | ⟨h4, h4'⟩
    · rw [decide_eq_true h4]; rfl
    · rw [h4', decide_eq_true h4.symm]; simp
  simp only [h6, Bool.not_true, Bool.false_or, Bool.or_eq_true, decide_eq_true_eq] at h5
  rcases h5 with ((h5 | h5) | h5) | h5
  · rw [smp_w1 h1 h5] at h2; cases h2
  · subst h5; rw [smp_w2 (by omega) (by decide)] at h2; cases h2
  · subst h5; rw [smp_w4 (by omega) (by decide)] at h2; cases h2
  · exact h5
theorem mem_6 : memI 6 = [1, 2] := by
  have h1 : mem2 6 = Lib.ctz 64 6 :: mem2 4 := mem2_step (x := 6) (by decide)
  have h2 : mem2 4 = Lib.ctz 64 4 :: mem2 0 := mem2_step (x := 4) (by decide)
  unfold memI
  rw [h1, h2, mem2_zero]
  decide
theorem mem_5 : memI 5 = [0, 2] := by
  have h1 : mem2 5 = Lib.ctz 64 5 :: mem2 4 := mem2_step (x := 5) (by decide)
  have h2 : mem2 4 = Lib.ctz 64 4 :: mem2 0 := mem2_step (x := 4) (by decide)
  unfold memI
  rw [h1, h2, mem2_zero]
  decide
end Go.Proofs.YtldodmfmibeoiaaDoor
