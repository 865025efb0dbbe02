/- The document's Pair comes to what the program's own comes to. -/
import Derived.Test.YtckagcbjcpfjpaaR8
import Derived.Test.YtckagcbjcpfjpaaPair
namespace Go.Proofs.Ytckagcbjcpfjpaa
open Go.RowKit
def Cheap.small (c : Cheap) : Int := if c.is then (c.i : Int) else -1
def Cheap.great (c : Cheap) : Int := if c.is then (c.k : Int) else -1
theorem pairStep_no {h : House} {t : Nat → Meter} {i k : Nat} {c : Cheap} (hb : h.pairB t i k = false) : h.pairStep t i k c = c := by simp [House.pairStep, hb]
theorem pairStep_new {h : House} {t : Nat → Meter} {i k : Nat} {c : Cheap} (hb : h.pairB t i k = true) (hc : c.is = false) : h.pairStep t i k c = ⟨i, k, (t i).price + (t k).price, true⟩ := by simp [House.pairStep, hb, Cheap.add, hc]
theorem pairStep_less {h : House} {t : Nat → Meter} {i k : Nat} {c : Cheap} (hb : h.pairB t i k = true) (hp : (t i).price + (t k).price < c.price) : h.pairStep t i k c = ⟨i, k, (t i).price + (t k).price, true⟩ := by simp [House.pairStep, hb, Cheap.add, hp]
theorem pairStep_keep {h : House} {t : Nat → Meter} {i k : Nat} {c : Cheap} (hb : h.pairB t i k = true) (hc : c.is = true) (hp : ¬ (t i).price + (t k).price < c.price) : h.pairStep t i k c = c := by
  simp only [House.pairStep, hb, if_true, Cheap.add, hc, Bool.not_true, Bool.false_or, decide_eq_true_eq, if_neg hp]
/-- what slots 8, 9, 10 hold -/
def CheapIs (c : Cheap) (v8 v9 v10 : Value) : Prop := v8 = .int .i64 c.small ∧ v9 = .int .i64 c.great ∧ v10 = .int .i64 c.price
set_option maxRecDepth 100000 in
set_option maxHeartbeats 2000000 in
theorem refPair_any (h : House) (ta ra oa : Option Addr) (tc rc n cap : Nat) (t : Nat → Meter) (w : World) (g1 : h.nt ≤ 1000000) (g2 : h.nr ≤ 1000000) (g3 : n ≤ 1000000) (hT : TapsAt w ta h.nt h.t) (hR : RulesAt w ra h.nr h.r) (hM : MetersAt w oa n t) :
    Calls Try.prog 21 #[houseV h ta ra tc rc, .slice oa n cap] w fun e w' => e = .returned (.tuple #[.int .i64 ((h.pairR n t).1 : Nat), .int .i64 ((h.pairR n t).2.1 : Nat), .int .i64 (h.pairR n t).2.2.1, .int .i64 ((h.pairR n t).2.2.2 : Nat)]) ∧ Below w.heap.size w w' := by
  have HT := Lib.hid hT
  have HR := Lib.hid hR
  have HM := Lib.hid hM
  clear hT hR hM
  go_enter Try.func21, Try.ntmps21
  go_wp2_with fail
  refine (refHouse_any h ta ra tc rc _ g1 g2 (HT.out.mono (below_alloc1 _ _)) (HR.out.mono (below_alloc1 _ _))).mono ?_
  rintro e w1 ⟨rfl, hb1⟩
  have KH := Lib.hid ((HB.new h ta ra tc rc w).below hb1)
  have hbw : Below w.heap.size w w1 := (below_alloc1 _ _).trans (hb1.mono (by simp))
  clear hb1
  by_cases hv : h.valid = true
  · have HV := Lib.hid hv
    rw [hv]
    go_wp2_with fail
    refine (refSizes_any oa n cap t _ g3 (HM.out.mono hbw)).mono ?_
    rintro e w2 ⟨rfl, hb2⟩
    have KH2 := Lib.hid (KH.out.below hb2)
    have hbw2 := hbw.trans (hb2.mono hbw.size)
    clear hb2
    by_cases hl : listB n t = true
    · have HL := Lib.hid hl
      have hn12 : n ≤ 12 := by simp only [listB, Bool.and_eq_true, decide_eq_true_eq] at hl; exact hl.1
      rw [hl]
      clear hv hl
      go_wp2
      go_loopw [8, 9, 10, 11] (fun v8 v9 v10 v11 wr => ∃ j : Nat, j ≤ n ∧ v11 = .int .i64 j ∧ CheapIs (h.pairOut t n j) v8 v9 v10 ∧ Below w2.heap.size w2 wr) (fun _ _ _ i _ => n - (intOf i).toNat)
      case atStart => exact ⟨0, Nat.zero_le _, rfl, ⟨rfl, rfl, rfl⟩, Below.refl _ _⟩
      case round =>
        obtain ⟨j, hj, rfl, ⟨rfl, rfl, rfl⟩, hb⟩ := hrel
        have hsz := hb.size
        have hbr := hbw2.trans (hb.mono hbw2.size)
        by_cases hlt : j < n
        · obtain ⟨c, hc⟩ : ∃ c, c = h.pairOut t n j := ⟨_, rfl⟩
          rw [← hc]
          have HC0 := Lib.hid hc
          clear hc
          go_wp2
          go_loopw [8, 9, 10, 12] (fun v8 v9 v10 v12 wn => ∃ m : Nat, j + 1 + m ≤ n ∧ v12 = .int .i64 ((j + 1 + m : Nat) : Int) ∧ CheapIs (h.pairIn t j c m) v8 v9 v10 ∧ Below wr.heap.size wr wn) (fun _ _ _ i _ => n - (intOf i).toNat)
          case atStart => exact ⟨0, by omega, by go_num, ⟨rfl, rfl, rfl⟩, Below.refl _ _⟩
          case round =>
            obtain ⟨m, hmm1, rfl, ⟨rfl, rfl, rfl⟩, hb2⟩ := hrel
            have hbn := hbr.trans (hb2.mono hbr.size)
            obtain ⟨i, hi⟩ : ∃ i, i = j + 1 + m := ⟨_, rfl⟩
            rw [← hi] at hmm1 ⊢
            obtain ⟨⟨ci, ck, cp, is⟩, hd⟩ : ∃ d, d = h.pairIn t j c m := ⟨_, rfl⟩
            rw [← hd]
            have HD := Lib.hid hd
            clear hd
            by_cases hltm : i < n
            · obtain ⟨b, off, rfl, hlt0, m0, m1, m2, m3⟩ := (HM.out.mono hbn) i hltm
              obtain ⟨b', off', hbo', hlt1, n0, n1, n2, n3⟩ := (HM.out.mono hbn) j hlt
              cases hbo'
              have KR := (KH2.out.below hb).below hb2
              have r0 : ∀ W : Aft wr, W.val.cell? ⟨b, off + i * 4, none⟩ = some (.int .i64 (t i).start) := fun W => (W.below.cell hlt0).trans m0
              have r1 : ∀ W : Aft wr, W.val.cell? ⟨b, off + i * 4 + 1, none⟩ = some (.int .i64 (t i).full) := fun W => (W.below.cell hlt0).trans m1
              have r2 : ∀ W : Aft wr, W.val.cell? ⟨b, off + i * 4 + 2, none⟩ = some (.int .i64 (t i).loss) := fun W => (W.below.cell hlt0).trans m2
              have r3 : ∀ W : Aft wr, W.val.cell? ⟨b, off + i * 4 + 3, none⟩ = some (.int .i64 (t i).price) := fun W => (W.below.cell hlt0).trans m3
              have r4 : ∀ W : Aft wr, W.val.cell? ⟨w.heap.size, 0, none⟩ = some (.int .i64 h.head) := fun W => (KR.below W.below).a0
              have r5 : ∀ W : Aft wr, W.val.cell? ⟨w.heap.size, 1, none⟩ = some (.int .i64 h.drip) := fun W => (KR.below W.below).a1
              have r6 : ∀ W : Aft wr, W.val.cell? ⟨w.heap.size, 2, none⟩ = some (.slice ta h.nt tc) := fun W => (KR.below W.below).a2
              have r7 : ∀ W : Aft wr, W.val.cell? ⟨w.heap.size, 3, none⟩ = some (.slice ra h.nr rc) := fun W => (KR.below W.below).a3
              have p0 : ∀ W : Aft wr, W.val.cell? ⟨b, off + j * 4, none⟩ = some (.int .i64 (t j).start) := fun W => (W.below.cell hlt0).trans n0
              have p1 : ∀ W : Aft wr, W.val.cell? ⟨b, off + j * 4 + 1, none⟩ = some (.int .i64 (t j).full) := fun W => (W.below.cell hlt0).trans n1
              have p3 : ∀ W : Aft wr, W.val.cell? ⟨b, off + j * 4 + 3, none⟩ = some (.int .i64 (t j).price) := fun W => (W.below.cell hlt0).trans n3
              have hz := full_zero h (t i)
              have hc : ∀ W : Aft wr, Calls Try.prog 40 #[.agg #[.int .i64 h.head, .int .i64 h.drip, .slice ta h.nt tc, .slice ra h.nr rc], .agg #[.int .i64 (t i).start, .int .i64 (t i).full, .int .i64 (t i).loss, .int .i64 (t i).price]] W.val fun e w' => e = .returned (.tuple #[.int .i64 ((h.starved (t i)).1 : Nat), .bool (h.starved (t i)).2]) ∧ Below W.val.heap.size W.val w' :=
                fun W => refstarved_any h HV.out (t i) (listB_fair HL.out i hltm).2 ta ra tc rc _ (HT.out.mono (hbn.trans (W.below.mono hbn.size))) (HR.out.mono (hbn.trans (W.below.mono hbn.size)))
              obtain ⟨⟨a, pb⟩, hab⟩ : ∃ ab, ab = h.starved (t i) := ⟨_, rfl⟩
              rw [← hab] at hz hc
              have HC := Lib.hid hc
              have HI := Lib.hid hi
              have hpi := listB_price HL.out i hltm
              have hpj := listB_price HL.out j hlt
              have hjn : (j : Int) < n := by omega
              have hin : (i : Int) < n := by omega
              clear m0 m1 m2 m3 n0 n1 n2 n3 hc hab KR hi
              dsimp only at HC hz
              by_cases ha : a = 0
              · subst ha
                have hfu : h.fullB (t i) = true := hz
                clear hz
                by_cases hst : (t j).start ≤ h.drip
                · have hd1 : decide (h.drip < (t j).start) = false := decide_eq_false (by omega)
                  by_cases hfl : (t i).start ≤ (t j).full
                  · have hd2 : decide ((t j).full < (t i).start) = false := decide_eq_false (by omega)
                    have HP := Lib.hid (show h.pairB t j i = true by simp [House.pairB, hfu, hst, hfl])
                    clear hfu
                    cases is
                    · have HB := Lib.hid (pairStep_new (c := ⟨ci, ck, cp, false⟩) HP.out rfl)
                      have hsm : Cheap.small ⟨ci, ck, cp, false⟩ = -1 := rfl
                      go_wp2
                      refine wp_region_aft (by kernel_rfl) (by kernel_rfl) ?_
                      repeat (go_big_quiet_step ((go_at_call 40; exact aft_call (HC.out _))))
                      refine wpQuiet_nil ?_
                      rintro ⟨wq, hbq⟩
                      have s0 := r0 ⟨wq, hbq⟩
                      have s1 := r5 ⟨wq, hbq⟩
                      have s3 := r3 ⟨wq, hbq⟩
                      have s4 := p0 ⟨wq, hbq⟩
                      have s6 := p1 ⟨wq, hbq⟩
                      have s7 := p3 ⟨wq, hbq⟩
                      dsimp only at s0 s1 s3 s4 s6 s7
                      go_wp2
                      go_big_quiet (fail)
                      go_wp2
                      go_big_quiet (fail)
                      go_wp2
                      go_big_quiet (fail)
                      go_wp2
                      go_roundw
                      case rel => exact ⟨m + 1, by have := HI.out; omega, congrArg (Value.int .i64) (by have := HI.out; omega), by
                        have e := HI.out
                        simp only [House.pairIn]
                        rw [← e, ← HD.out, HB.out]; exact ⟨rfl, rfl, rfl⟩, by repeat' (first | exact hb2.trans (hbq.mono hb2.size) | apply below_drewN)⟩
                      case measure => simp [intOf]; omega
                    · have hsm : Cheap.small ⟨ci, ck, cp, true⟩ = (ci : Int) := rfl
                      have hd4 : decide ((ci : Int) < 0) = false := decide_eq_false (by omega)
                      by_cases hpp : (t j).price + (t i).price < cp
                      · have hd3 : decide ((t j).price + (t i).price < cp) = true := decide_eq_true hpp
                        have HB := Lib.hid (pairStep_less (c := ⟨ci, ck, cp, true⟩) HP.out hpp)
                        go_wp2
                        refine wp_region_aft (by kernel_rfl) (by kernel_rfl) ?_
                        repeat (go_big_quiet_step ((go_at_call 40; exact aft_call (HC.out _))))
                        refine wpQuiet_nil ?_
                        rintro ⟨wq, hbq⟩
                        have s0 := r0 ⟨wq, hbq⟩
                        have s1 := r5 ⟨wq, hbq⟩
                        have s3 := r3 ⟨wq, hbq⟩
                        have s4 := p0 ⟨wq, hbq⟩
                        have s6 := p1 ⟨wq, hbq⟩
                        have s7 := p3 ⟨wq, hbq⟩
                        dsimp only at s0 s1 s3 s4 s6 s7
                        go_wp2
                        go_big_quiet (fail)
                        go_wp2
                        go_big_quiet (fail)
                        go_wp2
                        go_big_quiet (fail)
                        go_wp2
                        go_roundw
                        case rel => exact ⟨m + 1, by have := HI.out; omega, congrArg (Value.int .i64) (by have := HI.out; omega), by
                          have e := HI.out
                          simp only [House.pairIn]
                          rw [← e, ← HD.out, HB.out]; exact ⟨rfl, rfl, rfl⟩, by repeat' (first | exact hb2.trans (hbq.mono hb2.size) | apply below_drewN)⟩
                        case measure => simp [intOf]; omega
                      · have hd3 : decide ((t j).price + (t i).price < cp) = false := decide_eq_false hpp
                        have HB := Lib.hid (pairStep_keep (c := ⟨ci, ck, cp, true⟩) HP.out rfl hpp)
                        go_wp2
                        refine wp_region_aft (by kernel_rfl) (by kernel_rfl) ?_
                        repeat (go_big_quiet_step ((go_at_call 40; exact aft_call (HC.out _))))
                        refine wpQuiet_nil ?_
                        rintro ⟨wq, hbq⟩
                        have s0 := r0 ⟨wq, hbq⟩
                        have s1 := r5 ⟨wq, hbq⟩
                        have s3 := r3 ⟨wq, hbq⟩
                        have s4 := p0 ⟨wq, hbq⟩
                        have s6 := p1 ⟨wq, hbq⟩
                        have s7 := p3 ⟨wq, hbq⟩
                        dsimp only at s0 s1 s3 s4 s6 s7
                        go_wp2
                        go_big_quiet (fail)
                        go_wp2
                        go_big_quiet (fail)
                        go_wp2
                        go_roundw
                        case rel => exact ⟨m + 1, by have := HI.out; omega, congrArg (Value.int .i64) (by have := HI.out; omega), by
                          have e := HI.out
                          simp only [House.pairIn]
                          rw [← e, ← HD.out, HB.out]; exact ⟨rfl, rfl, rfl⟩, by repeat' (first | exact hb2.trans (hbq.mono hb2.size) | apply below_drewN)⟩
                        case measure => simp [intOf]; omega
                  · have hd2 : decide ((t j).full < (t i).start) = true := decide_eq_true (by omega)
                    have HB := Lib.hid (pairStep_no (c := ⟨ci, ck, cp, is⟩) (show h.pairB t j i = false by simp [House.pairB, hfl]))
                    clear hfu
                    go_wp2
                    refine wp_region_aft (by kernel_rfl) (by kernel_rfl) ?_
                    repeat (go_big_quiet_step ((go_at_call 40; exact aft_call (HC.out _))))
                    refine wpQuiet_nil ?_
                    rintro ⟨wq, hbq⟩
                    have s0 := r0 ⟨wq, hbq⟩
                    have s1 := r5 ⟨wq, hbq⟩
                    have s3 := r3 ⟨wq, hbq⟩
                    have s4 := p0 ⟨wq, hbq⟩
                    have s6 := p1 ⟨wq, hbq⟩
                    have s7 := p3 ⟨wq, hbq⟩
                    dsimp only at s0 s1 s3 s4 s6 s7
                    go_wp2
                    go_big_quiet (fail)
                    go_wp2
                    go_roundw
                    case rel => exact ⟨m + 1, by have := HI.out; omega, congrArg (Value.int .i64) (by have := HI.out; omega), by
                      have e := HI.out
                      simp only [House.pairIn]
                      rw [← e, ← HD.out, HB.out]; exact ⟨rfl, rfl, rfl⟩, by repeat' (first | exact hb2.trans (hbq.mono hb2.size) | apply below_drewN)⟩
                    case measure => simp [intOf]; omega
                · have hd1 : decide (h.drip < (t j).start) = true := decide_eq_true (by omega)
                  have HB := Lib.hid (pairStep_no (c := ⟨ci, ck, cp, is⟩) (show h.pairB t j i = false by simp [House.pairB, hst]))
                  clear hfu
                  go_wp2
                  refine wp_region_aft (by kernel_rfl) (by kernel_rfl) ?_
                  repeat (go_big_quiet_step ((go_at_call 40; exact aft_call (HC.out _))))
                  refine wpQuiet_nil ?_
                  rintro ⟨wq, hbq⟩
                  have s0 := r0 ⟨wq, hbq⟩
                  have s1 := r5 ⟨wq, hbq⟩
                  have s3 := r3 ⟨wq, hbq⟩
                  have s4 := p0 ⟨wq, hbq⟩
                  have s6 := p1 ⟨wq, hbq⟩
                  have s7 := p3 ⟨wq, hbq⟩
                  dsimp only at s0 s1 s3 s4 s6 s7
                  go_wp2
                  go_big_quiet (fail)
                  go_wp2
                  go_roundw
                  case rel => exact ⟨m + 1, by have := HI.out; omega, congrArg (Value.int .i64) (by have := HI.out; omega), by
                    have e := HI.out
                    simp only [House.pairIn]
                    rw [← e, ← HD.out, HB.out]; exact ⟨rfl, rfl, rfl⟩, by repeat' (first | exact hb2.trans (hbq.mono hb2.size) | apply below_drewN)⟩
                  case measure => simp [intOf]; omega
              · have hfu : h.fullB (t i) = false := by rw [hz]; simpa using ha
                have hne : ((a : Int) != 0) = true := by simpa using ha
                have HB := Lib.hid (pairStep_no (c := ⟨ci, ck, cp, is⟩) (show h.pairB t j i = false by simp [House.pairB, hfu]))
                clear hz hfu
                go_wp2
                refine wp_region_aft (by kernel_rfl) (by kernel_rfl) ?_
                repeat (go_big_quiet_step ((go_at_call 40; exact aft_call (HC.out _))))
                refine wpQuiet_nil ?_
                rintro ⟨wq, hbq⟩
                have s0 := r0 ⟨wq, hbq⟩
                have s1 := r5 ⟨wq, hbq⟩
                have s3 := r3 ⟨wq, hbq⟩
                have s4 := p0 ⟨wq, hbq⟩
                have s6 := p1 ⟨wq, hbq⟩
                have s7 := p3 ⟨wq, hbq⟩
                dsimp only at s0 s1 s3 s4 s6 s7
                go_wp2
                go_big_quiet (fail)
                go_wp2
                go_roundw
                case rel => exact ⟨m + 1, by have := HI.out; omega, congrArg (Value.int .i64) (by have := HI.out; omega), by
                  have e := HI.out
                  simp only [House.pairIn]
                  rw [← e, ← HD.out, HB.out]; exact ⟨rfl, rfl, rfl⟩, by repeat' (first | exact hb2.trans (hbq.mono hb2.size) | apply below_drewN)⟩
                case measure => simp [intOf]; omega
            · have HI := Lib.hid hi
              obtain rfl : i = n := by omega
              have HO := Lib.hid (show h.pairOut t i (j + 1) = ⟨ci, ck, cp, is⟩ by
                have e := HI.out
                simp only [House.pairOut]
                rw [← HC0.out, show i - (j + 1) = m by omega, ← HD.out])
              clear hi
              go_wp2
              go_roundw
              case rel => exact ⟨j + 1, by omega, by go_num, by rw [HO.out]; exact ⟨rfl, rfl, rfl⟩, hb.trans (hb2.mono hsz)⟩
              case measure => simp [intOf]; omega
        · obtain rfl : j = n := by omega
          obtain ⟨⟨ci, ck, cp, is⟩, hd⟩ : ∃ d, d = h.pairOut t j j := ⟨_, rfl⟩
          rw [← hd]
          have HD := Lib.hid hd
          clear hd
          cases is
          · have hsm : Cheap.small ⟨ci, ck, cp, false⟩ = -1 := rfl
            go_wp2
            refine bodyPost_ret (results_tmp4 rfl _ _) rfl ⟨?_, hbr⟩
            rw [show h.pairR j t = (0, 0, 0, 4) by rw [House.pairR, if_pos (errB_ok HV.out HL.out), ← HD.out]; rfl]
            rfl
          · have hsm : Cheap.small ⟨ci, ck, cp, true⟩ = (ci : Int) := rfl
            go_wp2
            refine bodyPost_ret (results_tmp4 rfl _ _) rfl ⟨?_, hbr⟩
            rw [show h.pairR j t = (ci, ck, cp, 0) by rw [House.pairR, if_pos (errB_ok HV.out HL.out), ← HD.out]; rfl]
            rfl
    · replace hl : listB n t = false := by simpa using hl
      rw [hl]
      have HE := Lib.hid (show h.pairR n t = (0, 0, 0, 2) by rw [House.pairR, errB_list HV.out hl]; rfl)
      go_wp2
      refine bodyPost_ret (results_tmp4 rfl _ _) rfl ⟨?_, hbw2⟩
      rw [HE.out]
      rfl
  · replace hv : h.valid = false := by simpa using hv
    rw [hv]
    have HE := Lib.hid (show h.pairR n t = (0, 0, 0, 1) by rw [House.pairR, errB_not hv]; rfl)
    go_wp2
    refine bodyPost_ret (results_tmp4 rfl _ _) rfl ⟨?_, hbw⟩
    rw [HE.out]
    rfl
end Go.Proofs.Ytckagcbjcpfjpaa
