/- The document's Choose and Least come to what the program's own come to. -/
import Derived.Test.YtckagcbjcpfjpaaPk
import Derived.Test.YtckagcbjcpfjpaaLeast
namespace Go.Proofs.Ytckagcbjcpfjpaa
open Go.RowKit
theorem full_zero (h : House) (m : Meter) : h.fullB m = ((h.starved m).1 == 0) := by
  unfold House.fullB wantB
  by_cases hz : (h.starved m).1 = 0
  · simp [hz, starved_zero hz]
  · simp [hz]
theorem errB_not {h : House} {n : Nat} {t : Nat → Meter} (hv : h.valid = false) : errB h n t = 1 := by simp [errB, hv]
theorem errB_list {h : House} {n : Nat} {t : Nat → Meter} (hv : h.valid = true) (hl : listB n t = false) : errB h n t = 2 := by simp [errB, hv, hl]
theorem errB_ok {h : House} {n : Nat} {t : Nat → Meter} (hv : h.valid = true) (hl : listB n t = true) : errB h n t = 0 := by simp [errB, hv, hl]
set_option maxHeartbeats 2000000 in
theorem refChoose_any (h : House) (ta ra oa : Option Addr) (tc rc n cap : Nat) (t : Nat → Meter) (w : World) (g1 : h.nt ≤ 1000000) (g2 : h.nr ≤ 1000000) (g3 : n ≤ 1000000) (hT : TapsAt w ta h.nt h.t) (hR : RulesAt w ra h.nr h.r) (hM : MetersAt w oa n t) :
    Calls Try.prog 19 #[houseV h ta ra tc rc, .slice oa n cap] w fun e w' => e = .returned (.tuple #[.int .i64 ((h.chooseR n t).1 : Nat), .int .i64 ((h.chooseR n t).2 : Nat)]) ∧ Below w.heap.size w w' := by
  have HT := Lib.hid hT
  have HR := Lib.hid hR
  have HM := Lib.hid hM
  clear hT hR hM
  go_enter Try.func19, Try.ntmps19
  go_wp2_with fail
  refine (refHouse_any h ta ra tc rc _ g1 g2 (HT.out.mono (below_alloc1 _ _)) (HR.out.mono (below_alloc1 _ _))).mono ?_
  rintro e w1 ⟨rfl, hb1⟩
  have KH := Lib.hid ((HB.new h ta ra tc rc w).below hb1)
  have hbw : Below w.heap.size w w1 := (below_alloc1 _ _).trans (hb1.mono (by simp))
  clear hb1
  by_cases hv : h.valid = true
  · have HV := Lib.hid hv
    rw [hv]
    go_wp2_with fail
    refine (refSizes_any oa n cap t _ g3 (HM.out.mono hbw)).mono ?_
    rintro e w2 ⟨rfl, hb2⟩
    have KH2 := Lib.hid (KH.out.below hb2)
    have hbw2 := hbw.trans (hb2.mono hbw.size)
    clear hb2
    by_cases hl : listB n t = true
    · have HL := Lib.hid hl
      rw [hl]
      clear hv hl
      go_wp2
      go_loopw [6, 7] (fun v6 v7 wr => ∃ k : Nat, k ≤ n ∧ v7 = .int .i64 k ∧ v6 = .int .i64 (h.chErr t k : Nat) ∧ Below w2.heap.size w2 wr ∧ ∀ i, i < k → h.goodB (t i) = false) (fun _ i _ => n - (intOf i).toNat)
      case atStart => exact ⟨0, Nat.zero_le _, rfl, rfl, Below.refl _ _, fun i hi => by omega⟩
      case round =>
        obtain ⟨k, hk, rfl, rfl, hb, hno⟩ := hrel
        have HN := Lib.hid hno
        have hsz := hb.size
        have hbr := hbw2.trans (hb.mono hbw2.size)
        clear hno
        by_cases hlt : k < n
        · obtain ⟨b, off, rfl, hlt0, m0, m1, m2, m3⟩ := (HM.out.mono hbr) k hlt
          have KR := KH2.out.below hb
          have r0 : ∀ W : Aft wr, W.val.cell? ⟨b, off + k * 4, none⟩ = some (.int .i64 (t k).start) := fun W => (W.below.cell hlt0).trans m0
          have r1 : ∀ W : Aft wr, W.val.cell? ⟨b, off + k * 4 + 1, none⟩ = some (.int .i64 (t k).full) := fun W => (W.below.cell hlt0).trans m1
          have r2 : ∀ W : Aft wr, W.val.cell? ⟨b, off + k * 4 + 2, none⟩ = some (.int .i64 (t k).loss) := fun W => (W.below.cell hlt0).trans m2
          have r3 : ∀ W : Aft wr, W.val.cell? ⟨b, off + k * 4 + 3, none⟩ = some (.int .i64 (t k).price) := fun W => (W.below.cell hlt0).trans m3
          have r4 : ∀ W : Aft wr, W.val.cell? ⟨w.heap.size, 0, none⟩ = some (.int .i64 h.head) := fun W => (KR.below W.below).a0
          have r5 : ∀ W : Aft wr, W.val.cell? ⟨w.heap.size, 1, none⟩ = some (.int .i64 h.drip) := fun W => (KR.below W.below).a1
          have r6 : ∀ W : Aft wr, W.val.cell? ⟨w.heap.size, 2, none⟩ = some (.slice ta h.nt tc) := fun W => (KR.below W.below).a2
          have r7 : ∀ W : Aft wr, W.val.cell? ⟨w.heap.size, 3, none⟩ = some (.slice ra h.nr rc) := fun W => (KR.below W.below).a3
          have hz := full_zero h (t k)
          have hgd : h.goodB (t k) = (h.fullB (t k) && decide ((t k).start ≤ h.drip)) := rfl
          have hc : ∀ W : Aft wr, Calls Try.prog 40 #[.agg #[.int .i64 h.head, .int .i64 h.drip, .slice ta h.nt tc, .slice ra h.nr rc], .agg #[.int .i64 (t k).start, .int .i64 (t k).full, .int .i64 (t k).loss, .int .i64 (t k).price]] W.val fun e w' => e = .returned (.tuple #[.int .i64 ((h.starved (t k)).1 : Nat), .bool (h.starved (t k)).2]) ∧ Below W.val.heap.size W.val w' :=
            fun W => refstarved_any h HV.out (t k) (listB_fair HL.out k hlt).2 ta ra tc rc _ (HT.out.mono (hbr.trans (W.below.mono hbr.size))) (HR.out.mono (hbr.trans (W.below.mono hbr.size)))
          obtain ⟨⟨a, pb⟩, hab⟩ : ∃ ab, ab = h.starved (t k) := ⟨_, rfl⟩
          rw [← hab] at hz hc
          have HC := Lib.hid hc
          clear m0 m1 m2 m3 hc hab KR
          dsimp only at HC hz
          by_cases ha : a = 0
          · subst ha
            have hfu : h.fullB (t k) = true := hz
            by_cases hst : (t k).start ≤ h.drip
            · have HB := Lib.hid (show h.chooseR n t = (k, 0) by
                rw [House.chooseR, if_pos (errB_ok HV.out HL.out), firstN_some hlt HN.out (by rw [hgd, hfu]; simpa using hst)])
              clear hz hfu hgd
              go_wp2
              refine wp_region_aft (by kernel_rfl) (by kernel_rfl) ?_
              repeat (go_big_quiet_step ((go_at_call 40; exact aft_call (HC.out _))))
              refine wpQuiet_nil ?_
              rintro ⟨wq, hbq⟩
              have s0 := r0 ⟨wq, hbq⟩
              have s1 := r5 ⟨wq, hbq⟩
              dsimp only at s0 s1
              go_wp2
              go_quiet (fail)
              go_wp2
              go_ret2
              rw [HB.out]
              exact ⟨rfl, below_drewN (hbr.trans (hbq.mono hbr.size)) _⟩
            · have HB := Lib.hid (show h.goodB (t k) = false by rw [hgd]; simp; intro _; omega)
              have HE := Lib.hid (chErr_full h t k hfu)
              clear hz hfu hgd
              go_wp2
              refine wp_region_aft (by kernel_rfl) (by kernel_rfl) ?_
              repeat (go_big_quiet_step ((go_at_call 40; exact aft_call (HC.out _))))
              refine wpQuiet_nil ?_
              rintro ⟨wq, hbq⟩
              have s0 := r0 ⟨wq, hbq⟩
              have s1 := r5 ⟨wq, hbq⟩
              dsimp only at s0 s1
              go_wp2
              go_quiet (fail)
              go_wp2
              go_roundw
              case rel => exact ⟨k + 1, by omega, by go_num, by first | (rw [HE.out]; done) | (rw [HE.out]; rfl), below_drewN (hb.trans (hbq.mono hsz)) _, upto_succ HN.out HB.out⟩
              case measure => simp [intOf]; omega
          · have hfu : h.fullB (t k) = false := by rw [hz]; simpa using ha
            have HB := Lib.hid (show h.goodB (t k) = false by rw [hgd, hfu]; rfl)
            have HE := Lib.hid (chErr_not h t k hfu)
            clear hz hfu hgd
            go_wp2
            refine wp_region_aft (by kernel_rfl) (by kernel_rfl) ?_
            repeat (go_big_quiet_step ((go_at_call 40; exact aft_call (HC.out _))))
            refine wpQuiet_nil ?_
            rintro ⟨wq, hbq⟩
            have s0 := r0 ⟨wq, hbq⟩
            have s1 := r5 ⟨wq, hbq⟩
            dsimp only at s0 s1
            go_wp2
            go_quiet (fail)
            go_wp2
            go_roundw
            case rel => exact ⟨k + 1, by omega, by go_num, by first | (rw [HE.out]; done) | (rw [HE.out]; rfl), below_drewN (hb.trans (hbq.mono hsz)) _, upto_succ HN.out HB.out⟩
            case measure => simp [intOf]; omega
        · obtain rfl : k = n := by omega
          go_wp2
          go_ret2
          rw [House.chooseR, if_pos (errB_ok HV.out HL.out), firstN_none HN.out]
          exact ⟨rfl, hbr⟩
    · replace hl : listB n t = false := by simpa using hl
      rw [hl]
      have HE := Lib.hid (show h.chooseR n t = (0, 2) by rw [House.chooseR, errB_list HV.out hl]; rfl)
      go_wp2
      go_ret2
      rw [HE.out]
      exact ⟨rfl, hbw2⟩
  · replace hv : h.valid = false := by simpa using hv
    rw [hv]
    have HE := Lib.hid (show h.chooseR n t = (0, 1) by rw [House.chooseR, errB_not hv]; rfl)
    go_wp2
    go_ret2
    rw [HE.out]
    exact ⟨rfl, hbw⟩
set_option maxHeartbeats 2000000 in
theorem refLeast_any (h : House) (loss : Int) (ta ra : Option Addr) (tc rc : Nat) (w : World) (g1 : h.nt ≤ 1000000) (g2 : h.nr ≤ 1000000) (hT : TapsAt w ta h.nt h.t) (hR : RulesAt w ra h.nr h.r) :
    Calls Try.prog 23 #[houseV h ta ra tc rc, .int .i64 loss] w (LeastPost h loss w) := by
  have HT := Lib.hid hT
  have HR := Lib.hid hR
  clear hT hR
  go_enter Try.func23, Try.ntmps23
  go_wp2_with fail
  refine (refHouse_any h ta ra tc rc _ g1 g2 (HT.out.mono (below_alloc1 _ _)) (HR.out.mono (below_alloc1 _ _))).mono ?_
  rintro e w1 ⟨rfl, hb1⟩
  have KH := Lib.hid ((HB.new h ta ra tc rc w).below hb1)
  have hbw : Below w.heap.size w w1 := (below_alloc1 _ _).trans (hb1.mono (by simp))
  clear hb1
  by_cases hv : h.valid = true
  · have HV := Lib.hid hv
    rw [hv]
    by_cases hl : withinB loss 0 10000 = true
    · have HL := Lib.hid hl
      have hl2 : 0 ≤ loss ∧ loss ≤ 10000 := by simpa [withinB] using hl
      clear hv
      go_wp2_with (go_at_call 46; refine (in_any _ _ _ _).mono ?_; rintro e w' ⟨rfl, rfl⟩; rw [hl])
      go_loopw [6, 7] (fun v6 v7 wr => ∃ i j : Nat, 1 ≤ i ∧ i ≤ j ∧ j ≤ 1000001 ∧ v6 = .int .i64 i ∧ v7 = .int .i64 j ∧ (1 < i → h.fullB (sizeOf loss (i - 2)) = false) ∧ (j ≤ 1000000 → h.fullB (sizeOf loss (j - 1)) = true) ∧ Below w1.heap.size w1 wr) (fun v6 v7 _ => (intOf v7).toNat - (intOf v6).toNat)
      case atStart => exact ⟨1, 1000001, by omega, by omega, by omega, rfl, rfl, by omega, by omega, Below.refl _ _⟩
      case round =>
        obtain ⟨i, j, hi, hij, hj, rfl, rfl, hlo, hhi, hb⟩ := hrel
        have HLO := Lib.hid hlo
        have HHI := Lib.hid hhi
        have hsz := hb.size
        have hbr := hbw.trans (hb.mono hbw.size)
        clear hlo hhi
        by_cases hlt : i < j
        · obtain ⟨a0, a1, a2, a3, als⟩ := KH.out.below hb
          obtain ⟨q, hq⟩ : ∃ q : Nat, q + 1 = (i + j) / 2 := ⟨(i + j) / 2 - 1, by omega⟩
          have em : ((i : Int) + j) / 2 = (q : Int) + 1 := by omega
          have hq1 : i ≤ q + 1 ∧ q + 1 < j := by omega
          clear hq
          go_wp2_with fail
          rw [em]
          have hz := full_zero h (sizeOf loss q)
          refine (refstarved_any h HV.out (sizeOf loss q) ⟨by dsimp only; omega, by dsimp only; omega, hl2.1, hl2.2⟩ ta ra tc rc _ (HT.out.mono hbr) (HR.out.mono hbr)).mono ?_
          rintro e w2 ⟨rfl, hb2⟩
          obtain ⟨⟨a, pb⟩, hab⟩ : ∃ ab, ab = h.starved (sizeOf loss q) := ⟨_, rfl⟩
          rw [← hab] at hz ⊢
          dsimp only at hz ⊢
          clear hab em a0 a1 a2 a3 als
          by_cases ha : a = 0
          · subst ha
            have HF := Lib.hid (show h.fullB (sizeOf loss q) = true from hz)
            clear hz
            go_wp2
            go_roundw
            case rel => exact ⟨i, q + 1, hi, hq1.1, by omega, rfl, by go_num, HLO.out, fun _ => HF.out, hb.trans (hb2.mono hsz)⟩
            case measure => simp [intOf]; omega
          · have HF := Lib.hid (show h.fullB (sizeOf loss q) = false by rw [hz]; simpa using ha)
            clear hz
            go_wp2
            go_roundw
            case rel => exact ⟨q + 2, j, by omega, by omega, hj, by go_num, rfl, fun _ => HF.out, HHI.out, hb.trans (hb2.mono hsz)⟩
            case measure => simp [intOf]; omega
        · obtain rfl : i = j := by omega
          by_cases hf : 1000000 < i
          · have HF := Lib.hid hf
            go_wp2
            go_ret2
            exact ⟨0, 4, rfl, hbr, by
              rw [if_pos HV.out, if_pos HL.out]
              have hh := HF.out
              have e : i = 1000001 := by omega
              subst e
              exact .inl ⟨rfl, rfl, HLO.out (by omega)⟩⟩
          · have HF := Lib.hid hf
            go_wp2
            go_ret2
            exact ⟨i, 0, rfl, hbr, by
              rw [if_pos HV.out, if_pos HL.out]
              have hh := HF.out
              exact .inr ⟨rfl, hi, by omega, HHI.out (by omega), HLO.out⟩⟩
    · have HL := Lib.hid (show withinB loss 0 10000 = false by simpa using hl)
      go_wp2_with (go_at_call 46; refine (in_any _ _ _ _).mono ?_; rintro e w' ⟨rfl, rfl⟩; rw [HL.out])
      go_ret2
      exact ⟨0, 2, rfl, hbw, by rw [if_pos HV.out, if_neg (by rw [HL.out]; simp)]; exact ⟨rfl, rfl⟩⟩
  · replace hv : h.valid = false := by simpa using hv
    rw [hv]
    have HV := Lib.hid hv
    go_wp2
    go_ret2
    exact ⟨0, 1, rfl, hbw, by rw [if_neg (by rw [HV.out]; simp)]; exact ⟨rfl, rfl⟩⟩
end Go.Proofs.Ytckagcbjcpfjpaa
