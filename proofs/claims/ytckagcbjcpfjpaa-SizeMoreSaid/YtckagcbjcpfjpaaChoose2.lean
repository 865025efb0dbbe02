/- Choose returns the first size that starves no set and hears the drip. -/
import Derived.Test.YtckagcbjcpfjpaaChoose
import Derived.LoopTactic
namespace Go.Proofs.Ytckagcbjcpfjpaa
open Go.RowKit
/-- a size starves no set -/
def House.fullB (h : House) (m : Meter) : Bool := wantB (h.starved m)
def House.goodB (h : House) (m : Meter) : Bool := h.fullB m && decide (m.start ≤ h.drip)
def firstN (n : Nat) (p : Nat → Bool) : Option Nat := (List.range n).find? p
theorem firstN_none {n : Nat} {p : Nat → Bool} (h : ∀ i, i < n → p i = false) : firstN n p = none := find_none fun x hx => h x (List.mem_range.1 hx)
theorem firstN_some {n k : Nat} {p : Nat → Bool} (hk : k < n) (h : ∀ i, i < k → p i = false) (hp : p k = true) : firstN n p = some k := by
  refine find_some (a := List.range k) ?_ (fun x hx => h x (List.mem_range.1 hx)) hp
  rw [← List.range_succ]
  obtain ⟨m, rfl⟩ : ∃ m, n = (k + 1) + m := ⟨n - (k + 1), by omega⟩
  rw [List.range_add]
  exact List.prefix_append _ _
/-- the error so far: none of k sizes is full, or one is -/
def House.chErr (h : House) (t : Nat → Meter) (k : Nat) : Nat := if anyB k (fun i => h.fullB (t i)) then 11 else 10
theorem anyB_succ (n : Nat) (p : Nat → Bool) : anyB (n + 1) p = (anyB n p || p n) := by simp [anyB, List.range_succ, List.any_append]
theorem chErr_full (h : House) (t : Nat → Meter) (k : Nat) (hf : h.fullB (t k) = true) : h.chErr t (k + 1) = 11 := by simp [House.chErr, anyB_succ, hf]
theorem chErr_not (h : House) (t : Nat → Meter) (k : Nat) (hf : h.fullB (t k) = false) : h.chErr t (k + 1) = h.chErr t k := by simp [House.chErr, anyB_succ, hf]
theorem upto_succ {p : Nat → Bool} {k : Nat} (h : ∀ i, i < k → p i = false) (hk : p k = false) : ∀ i, i < k + 1 → p i = false := fun i hi => by
  by_cases e : i = k
  · rw [e]; exact hk
  · exact h i (by omega)
def House.chooseR (h : House) (n : Nat) (t : Nat → Meter) : Nat × Nat :=
  if errB h n t = 0 then (match firstN n (fun i => h.goodB (t i)) with
    | some i => (i, 0)
    | none => (0, h.chErr t n)) else (0, errB h n t)
theorem listB_fair {n : Nat} {t : Nat → Meter} (hl : listB n t = true) (i : Nat) (hi : i < n) : (t i).valid = true ∧ (t i).fair := by
  simp only [listB, Bool.and_eq_true, Bool.not_eq_true'] at hl
  have h1 := hl.2
  have : ¬ sizeBad (lastFull t i) (t i) = true := fun hb => by rw [anyB_iff.2 ⟨i, hi, hb⟩] at h1; cases h1
  simp only [sizeBad, Bool.not_eq_true, Bool.not_eq_false', Bool.and_eq_true] at this
  refine ⟨this.1, ?_⟩
  have hm := this.1
  simp only [Meter.valid, withinB, Bool.and_eq_true, decide_eq_true_eq] at hm
  exact ⟨hm.1.1.1.1, hm.1.1.1.2, hm.1.2.1, hm.1.2.2⟩
set_option maxHeartbeats 1000000 in
theorem Choose_any (h : House) (ta ra oa : Option Addr) (tc rc n cap : Nat) (t : Nat → Meter) (w : World) (g1 : h.nt ≤ 1000000) (g2 : h.nr ≤ 1000000) (g3 : n ≤ 1000000) (hT : TapsAt w ta h.nt h.t) (hR : RulesAt w ra h.nr h.r) (hM : MetersAt w oa n t) :
    Calls Try.prog 18 #[houseV h ta ra tc rc, .slice oa n cap] w fun e w' => e = .returned (.tuple #[.int .i64 ((h.chooseR n t).1 : Nat), .int .i64 ((h.chooseR n t).2 : Nat)]) ∧ Below w.heap.size w w' := by
  have HT := Lib.hid hT
  have HR := Lib.hid hR
  have HM := Lib.hid hM
  clear hT hR hM
  go_enter Try.func18, Try.ntmps18
  go_wp2_with fail
  go_step3
  go_wp2_with fail
  refine (errorOf_any h ta ra oa tc rc n cap t _ g1 g2 g3 (HT.out.mono (below_alloc1 _ _)) (HR.out.mono (below_alloc1 _ _)) (HM.out.mono (below_alloc1 _ _))).mono ?_
  rintro e w1 ⟨rfl, hb1⟩
  have hs1 := hb1.size
  simp only [World.size_alloc] at hs1
  have q0 : w1.cell? ⟨w.heap.size, 0, none⟩ = some (.int .i64 h.head) := (hb1.cell (p := ⟨w.heap.size, 0, none⟩) (by simp)).trans (by simp [go_sem])
  have q1 : w1.cell? ⟨w.heap.size, 1, none⟩ = some (.int .i64 h.drip) := (hb1.cell (p := ⟨w.heap.size, 1, none⟩) (by simp)).trans (by simp [go_sem])
  have q2 : w1.cell? ⟨w.heap.size, 2, none⟩ = some (.slice ta h.nt tc) := (hb1.cell (p := ⟨w.heap.size, 2, none⟩) (by simp)).trans (by simp [go_sem])
  have q3 : w1.cell? ⟨w.heap.size, 3, none⟩ = some (.slice ra h.nr rc) := (hb1.cell (p := ⟨w.heap.size, 3, none⟩) (by simp)).trans (by simp [go_sem])
  have hb2 := (below_alloc1 w (.cells #[.int .i64 h.head, .int .i64 h.drip, .slice ta h.nt tc, .slice ra h.nr rc] 25)).trans (hb1.mono (by simp))
  clear hb1
  by_cases he : errB h n t = 0
  · have HE := Lib.hid he
    have hb : (((errB h n t : Nat) : Int) != 0) = false := by simp [he]
    clear he
    have hl : listB n t = true ∧ h.valid = true := by
      have := HE.out
      unfold errB at this
      split at this
      · split at this
        · exact ⟨by assumption, by assumption⟩
        · cases this
      · cases this
    have HL := Lib.hid hl
    clear hl
    go_wp2_with fail
    go_step3
    go_wp2
    go_loopw [7, 8, 9, 18] (fun v7 v8 v9 v18 wr => ∃ k : Nat, k ≤ n ∧ v18 = .int .i64 k ∧ v7 = .int .i64 (h.chErr t k : Nat) ∧ Below w1.heap.size w1 wr ∧ ∀ i, i < k → h.goodB (t i) = false) (fun _ _ _ i _ => n - (intOf i).toNat)
    case atStart => exact ⟨0, Nat.zero_le _, rfl, rfl, Below.refl _ _, fun i hi => by omega⟩
    case round =>
      obtain ⟨k, hk, rfl, rfl, hbr, hno⟩ := hrel
      have HN := Lib.hid hno
      clear hno
      have hsr := hbr.size
      by_cases hlt : k < n
      · obtain ⟨b, off, rfl, hlt0, m0, m1, m2, m3⟩ := ((HM.out.mono hb2).mono hbr) k hlt
        have r0 := (hbr.cell (p := ⟨w.heap.size, 0, none⟩) (by dsimp only; omega)).trans q0
        have r1 := (hbr.cell (p := ⟨w.heap.size, 1, none⟩) (by dsimp only; omega)).trans q1
        have r2 := (hbr.cell (p := ⟨w.heap.size, 2, none⟩) (by dsimp only; omega)).trans q2
        have r3 := (hbr.cell (p := ⟨w.heap.size, 3, none⟩) (by dsimp only; omega)).trans q3
        have hlt9 : w.heap.size < wr.heap.size := by omega
        have hbz := hb2.trans (hbr.mono (by omega))
        go_wp2_with fail
        have hba := hbz.alloc (by omega) (.cells #[.int .i64 (t k).start, .int .i64 (t k).full, .int .i64 (t k).loss, .int .i64 (t k).price] 27)
        refine (starved_any h (t k) HL.out.2 (listB_fair HL.out.1 k hlt).2 ta ra tc rc _ (HT.out.mono hba) (HR.out.mono hba)).mono ?_
        rintro e w3 ⟨rfl, hd1⟩
        have hs3 := hd1.size
        simp only [World.size_alloc] at hs3
        have s0 : w3.cell? ⟨wr.heap.size, 0, none⟩ = some (.int .i64 (t k).start) := (hd1.cell (p := ⟨wr.heap.size, 0, none⟩) (by simp)).trans (by simp [go_sem])
        have s1 : w3.cell? ⟨w.heap.size, 1, none⟩ = some (.int .i64 h.drip) := (hd1.cell (p := ⟨w.heap.size, 1, none⟩) (by simp; omega)).trans (by rw [World.cell?_alloc_lt _ _ _ (by dsimp only; omega)]; exact r1)
        have hbf := (hbr.alloc (by omega) (.cells #[.int .i64 (t k).start, .int .i64 (t k).full, .int .i64 (t k).loss, .int .i64 (t k).price] 27)).trans (hd1.mono (by simp; omega))
        clear hd1 r0 r1 r2 r3 m0 m1 m2 m3 q0 q1 q2 q3
        have hfull : h.fullB (t k) = wantB (h.starved (t k)) := rfl
        obtain ⟨⟨a, b⟩, hab⟩ : ∃ ab, ab = h.starved (t k) := ⟨_, rfl⟩
        rw [← hab] at hfull ⊢
        have HF := Lib.hid hfull
        clear hab hfull
        dsimp only
        go_wp2
        · have h1 : a = 0 := by assumption
          have h2 : b = true := by assumption
          have hff : h.fullB (t k) = false := by rw [HF.out, h1, h2]; rfl
          exact ⟨⟨k + 1, by omega, by go_num, by rw [chErr_not _ _ _ hff], hbf, upto_succ HN.out (by simp [House.goodB, hff])⟩, by simp [intOf]; omega⟩
        · rw [Exit.noGoto_ret]
          go_ret2
          have h1 : a = 0 := by assumption
          have h2 : ¬ b = true := by assumption
          have h3 : (t k).start ≤ h.drip := by assumption
          have hff : h.fullB (t k) = true := by rw [HF.out, h1]; simp [wantB, h2]
          have hfs := firstN_some hlt HN.out (by simp [House.goodB, hff, h3])
          exact ⟨by simp [House.chooseR, HE.out, hfs], hb2.trans (hbf.mono (by omega))⟩
        · have h1 : a = 0 := by assumption
          have h2 : ¬ b = true := by assumption
          have h3 : h.drip < (t k).start := by assumption
          have hff : h.fullB (t k) = true := by rw [HF.out, h1]; simp [wantB, h2]
          exact ⟨⟨k + 1, by omega, by go_num, by rw [chErr_full _ _ _ hff]; rfl, hbf, upto_succ HN.out (by simp [House.goodB, hff]; omega)⟩, by simp [intOf]; omega⟩
        · have h1 : ¬ a = 0 := by assumption
          have hff : h.fullB (t k) = false := by rw [HF.out]; simp [wantB, h1]
          exact ⟨⟨k + 1, by omega, by go_num, by rw [chErr_not _ _ _ hff], hbf, upto_succ HN.out (by simp [House.goodB, hff])⟩, by simp [intOf]; omega⟩
      · go_wp2
        rw [Exit.noGoto_ret]
        go_ret2
        have hkn : k = n := by omega
        refine ⟨?_, hb2.trans (hbr.mono (by omega))⟩
        have hf : firstN n (fun i => h.goodB (t i)) = none := firstN_none fun i hi => HN.out i (by omega)
        simp [House.chooseR, HE.out, hf, hkn]
  · have HE := Lib.hid he
    have hb : (((errB h n t : Nat) : Int) != 0) = true := by simpa using he
    clear he
    go_wp2
    rw [Exit.noGoto_ret]
    go_ret2
    exact ⟨by have := HE.out; simp [House.chooseR, this], hb2⟩
end Go.Proofs.Ytckagcbjcpfjpaa
