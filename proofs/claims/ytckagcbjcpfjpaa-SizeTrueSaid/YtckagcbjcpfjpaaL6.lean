/- The walk of SizeTrue, given what alive comes to. -/
import Derived.Test.YtckagcbjcpfjpaaP6
import Derived.Test.YtckagcbjcpfjpaaL8
import Derived.Test.YtckagcbjcpfjpaaL9
import Derived.Test.YtckagcbjcpfjpaaArgs2
namespace Go.Proofs.Ytckagcbjcpfjpaa
open Go.RowKit
def shrFacts (m : Nat) : Bool := (List.range 1024).all fun s => (bits BinOp.and IntKind.i64 ((s : Int) / 2 ^ m) 1 == 1) == bitAt s m
theorem shrFacts_all : (List.range 10).all shrFacts = true := by decide +kernel
theorem shr_bit {m s : Nat} (hm : m < 10) (hs : s < 1024) : (bits BinOp.and IntKind.i64 ((s : Int) / 2 ^ m) 1 == 1) = bitAt s m :=
  beq_iff_eq.1 (all_lt (all_lt shrFacts_all m hm) s hs)
set_option maxRecDepth 100000 in
set_option maxHeartbeats 4000000 in
theorem true_of (halive : ∀ w, Calls Try.prog 13 #[] w (TrueEnd w)) (h : House) (b : Nat) (hb9 : b < 65536) (ta ra oa ka : Option Addr) (tc rc n cap kn kc : Nat) (t : Nat → Meter) (qf : Nat → Nat) (w : World) (hT : TapsAt w ta h.nt h.t) (hR : RulesAt w ra h.nr h.r) (hM : MetersAt w oa n t) (hQ : U16sAt w ka kn qf) :
    Calls Try.prog 6 #[houseV h ta ra tc rc, .slice oa n cap, .int .u16 (b : Nat), .slice ka kn kc] w (TrueEnd w) := by
  have HA := Lib.hid halive
  have HT := Lib.hid hT
  have HR := Lib.hid hR
  have HM := Lib.hid hM
  have HQ := Lib.hid hQ
  clear halive hT hR hM hQ
  go_enter Try.func6, Try.ntmps6
  go_wp2_with fail
  refine (great_any h 8 ta ra tc rc _).mono ?_
  rintro e w1 ⟨rfl, hb1⟩
  have KH := Lib.hid ((HB.new h ta ra tc rc w).below hb1)
  have hbw : Below w.heap.size w w1 := Below.trans (by repeat' (first | exact Below.refl _ _ | assumption | apply below_drewN | apply Below.drew | (refine Below.alloc ?_ ?_ _) | (refine Below.setCell ?_ ?_ _) | (simp; done) | (simp; omega) | omega)) (hb1.mono (by simp))
  clear hb1
  by_cases hg : greatB h.nt h.nr 8 = true
  · rw [hg]
    go_wp2_with fail
    refine (HA.out _).mono ?_
    rintro e wz ⟨rfl, hbz⟩
    go_wp2
    go_ret
    exact ⟨rfl, hbw.trans (hbz.mono hbw.size)⟩
  · replace hg : greatB h.nt h.nr 8 = false := by simpa using hg
    have g1 : h.nt ≤ 1000000 := by have := great_no hg; omega
    have g2 : h.nr ≤ 1000000 := by have := great_no hg; omega
    rw [hg]
    clear hg
    obtain ⟨a0, a1, a2, a3, als⟩ := KH.out
    by_cases hn : (18 : Int) < (n : Int)
    · skip
      go_wp2_with fail
      refine (HA.out _).mono ?_
      rintro e wz ⟨rfl, hbz⟩
      go_wp2
      go_ret
      exact ⟨rfl, hbw.trans (hbz.mono hbw.size)⟩
    · have g3 : n ≤ 1000000 := by omega
      by_cases hk0 : ((kn : Int) == 0) = true
      · skip
        go_wp2_with fail
        refine (HA.out _).mono ?_
        rintro e wz ⟨rfl, hbz⟩
        go_wp2
        go_ret
        exact ⟨rfl, hbw.trans (hbz.mono hbw.size)⟩
      · replace hk0 : ((kn : Int) == 0) = false := by simpa using hk0
        have hkn : 0 < kn := by simp at hk0; omega
        go_wp2_with fail
        refine (refHouse_any h ta ra tc rc _ g1 g2 (HT.out.mono hbw) (HR.out.mono hbw)).mono ?_
        rintro e w2 ⟨rfl, hb2⟩
        have KH2 := Lib.hid (KH.out.below hb2)
        have hbw2 := hbw.trans (hb2.mono hbw.size)
        clear a0 a1 a2 a3 als hb2
        by_cases hv : h.valid = true
        · rw [hv]
          have HV := Lib.hid hv
          have hn10 : h.nt ≤ 10 := (valid_nt hv).2.1
          obtain ⟨N, hN⟩ : ∃ N, N = 2 ^ h.nt := ⟨_, rfl⟩
          have hw1 : wrap64 (2 ^ h.nt) = (N : Int) := by rw [hN]; exact wrap_lim _ hn10
          have hw2 : IntKind.i64.wrap (2 ^ h.nt) = (N : Int) := by rw [IntWalk.i64_left]; exact hw1
          have hpw2 : N ≤ 1024 := by rw [hN]; exact pow_le _ hn10
          obtain ⟨hp1, hp2, hp3, hp4, hp5⟩ := peak_is hv
          have hown := setBy_lt h b h.nt
          have hoo := setBy_ok hv b h.nt
          rw [← hN] at hp4 hown
          have HP1 := Lib.hid hp1
          have HN := Lib.hid hN
          have HOO := Lib.hid hoo
          have HP5 := Lib.hid hp5
          obtain ⟨a0, a1, a2, a3, als⟩ := KH2.out
          clear hv hp1 hp5 hoo hN
          go_wp2_with fail
          refine (peak_any h ta ra tc rc _ g1 g2 (HT.out.mono hbw2) (HR.out.mono hbw2) HV.out).mono ?_
          rintro e w3 ⟨rfl, hb3⟩
          obtain ⟨⟨A, B, C⟩, hABC⟩ : ∃ x, x = h.peak := ⟨_, rfl⟩
          rw [← hABC] at HP1 HP5 hp2 hp3 hp4 ⊢
          dsimp only at HP1 HP5 hp2 hp3 hp4 ⊢
          subst hp2
          have hbw3 := hbw2.trans (hb3.mono hbw2.size)
          have KH3 := Lib.hid (KH2.out.below hb3)
          have hn3 : ¬ w.heap.size = w3.heap.size := by have := KH3.out.ls; omega
          have e1 : ¬ (C : Int) < 0 := by omega
          have e2 : ¬ (N : Int) ≤ (C : Int) := by omega
          have hC : C < 1024 := by omega
          clear a0 a1 a2 a3 als hb3 hABC
          obtain ⟨a0, a1, a2, a3, als⟩ := KH3.out
          have hbA := hbw3.alloc hbw3.size (.cells #[.int .i64 A, .int .i64 (h.fhi C)] 31)
          go_wp2_with fail
          refine (refOpen_any h HV.out C hC ta ra tc rc _ (HR.out.mono hbA)).mono ?_
          rintro e w4 ⟨rfl, hb4⟩
          rw [HP5.out]
          have T1 := Lib.hid ((TB.new A (h.fhi C) w3).below hb4)
          have KH4 := Lib.hid ((KH3.out.below (below_alloc1 _ _)).below hb4)
          have hbw4 := hbA.trans (hb4.mono hbA.size)
          obtain ⟨own, ho⟩ : ∃ own, own = h.setBy b h.nt := ⟨_, rfl⟩
          clear a0 a1 a2 a3 als hb4
          obtain ⟨a0, a1, a2, a3, als⟩ := KH4.out
          go_wp2_with fail
          refine (openBy_any h HV.out b hb9 ta ra tc rc _ (HR.out.mono hbw4)).mono ?_
          rintro e w5 ⟨rfl, hb5⟩
          rw [← ho] at hown HOO ⊢
          have T2 := Lib.hid (T1.out.below hb5)
          have KH5 := Lib.hid (KH4.out.below hb5)
          have hbw5 := hbw4.trans (hb5.mono hbw4.size)
          clear a0 a1 a2 a3 als hb5 ho
          obtain ⟨a0, a1, a2, a3, als⟩ := KH5.out
          go_wp2
          clear a0 a1 a2 a3 als
          go_loopw [13, 14, 74] (fun v13 v14 v74 wr => ∃ m : Nat, m ≤ h.nt ∧ v74 = .int .i64 m ∧ v13 = .int .i64 (h.trueN own (fun k => qf (k % kn)) m) ∧ v14 = .int .i64 (h.needN own m) ∧ Below w5.heap.size w5 wr) (fun _ _ i _ => h.nt - (intOf i).toNat)
          case atStart => exact ⟨0, Nat.zero_le _, rfl, rfl, rfl, Below.refl _ _⟩
          case round =>
            obtain ⟨m, hm, rfl, rfl, rfl, hb⟩ := hrel
            have hbr := hbw5.trans (hb.mono hbw5.size)
            have hsz := hb.size
            by_cases hlt : m < h.nt
            · obtain ⟨bb, off, rfl, hlt0, m0, m1, m2⟩ := (HT.out.mono hbr) m hlt
              obtain ⟨hq9, qb, qo, rfl, hlt1, u0⟩ := (HQ.out.mono hbr) (m % kn) (Nat.mod_lt _ hkn)
              obtain ⟨r, hr⟩ : ∃ r : Int, r = (qf (m % kn) : Int) % ((h.t m).hi - (h.t m).lo + 1) := ⟨_, rfl⟩
              have v1 := valid_tap HV.out m hlt
              have hr0 : 0 ≤ r := by rw [hr]; exact Int.emod_nonneg _ (by omega)
              have hr1 : r ≤ (h.t m).hi - (h.t m).lo := by
                have := Int.emod_lt_of_pos (qf (m % kn) : Int) (show 0 < (h.t m).hi - (h.t m).lo + 1 by omega)
                rw [← hr] at this; omega
              have v2 := true_bd HV.out own (fun k => qf (k % kn)) m hm
              have v3 := fhiN_bd HV.out own m hm
              have hmk : (m : Int) % (kn : Int) = ((m % kn : Nat) : Int) := by simp
              obtain ⟨i, hi⟩ : ∃ i, i = m % kn := ⟨_, rfl⟩
              have hin : (i : Int) < (kn : Int) := by rw [hi]; have := Nat.mod_lt m hkn; omega
              have HI := Lib.hid hi
              rw [← hi] at hmk hr hq9 u0
              have hbit := shr_bit (m := m) (s := own) (by omega) (by omega)
              clear hi
              by_cases cb : bitAt own m = true
              · rw [cb] at hbit
                have HY := Lib.hid (show h.trueN own (fun k => qf (k % kn)) (m + 1) = h.trueN own (fun k => qf (k % kn)) m + ((h.t m).lo + r) by
                  rw [true_yes h cb, hr, HI.out])
                have HZ := Lib.hid (need_yes h cb)
                have hr2 := hr.symm
                have hd0 : (h.t m).hi - (h.t m).lo + 1 ≠ 0 := by omega
                clear cb hr
                go_wp2_with fail
                have s0 : (wr.alloc (.cells #[.int .i64 (h.t m).lo, .int .i64 (h.t m).hi, .int .i64 (h.t m).need] 52)).cell? ⟨wr.heap.size, 0, none⟩ = some (.int .i64 (h.t m).lo) := by simp [go_sem]
                have s1 : (wr.alloc (.cells #[.int .i64 (h.t m).lo, .int .i64 (h.t m).hi, .int .i64 (h.t m).need] 52)).cell? ⟨wr.heap.size, 1, none⟩ = some (.int .i64 (h.t m).hi) := by simp [go_sem]
                have s2 : (wr.alloc (.cells #[.int .i64 (h.t m).lo, .int .i64 (h.t m).hi, .int .i64 (h.t m).need] 52)).cell? ⟨wr.heap.size, 2, none⟩ = some (.int .i64 (h.t m).need) := by simp [go_sem]
                have s3 := ((below_alloc1 wr (.cells #[.int .i64 (h.t m).lo, .int .i64 (h.t m).hi, .int .i64 (h.t m).need] 52)).cell (p := ⟨qb, qo + i, none⟩) hlt1).trans u0
                have hbA2 := hb.alloc hsz (.cells #[.int .i64 (h.t m).lo, .int .i64 (h.t m).hi, .int .i64 (h.t m).need] 52)
                obtain ⟨wA, hwA⟩ : ∃ X, X = wr.alloc (.cells #[.int .i64 (h.t m).lo, .int .i64 (h.t m).hi, .int .i64 (h.t m).need] 52) := ⟨_, rfl⟩
                rw [← hwA] at s0 s1 s2 s3 hbA2 ⊢
                clear hwA u0 m0 m1 m2
                go_big_quiet (fail)
                go_wp2
                all_goals
                  go_roundw
                  case rel => exact ⟨m + 1, by omega, by go_num, by rw [HY.out], by rw [HZ.out], below_drewN hbA2 _⟩
                  case measure => simp [intOf]; omega
              · replace cb : bitAt own m = false := by simpa using cb
                rw [cb] at hbit
                have HY := Lib.hid (true_no h (q := fun k => qf (k % kn)) cb)
                have HZ := Lib.hid (need_no h cb)
                clear cb
                go_wp2
                go_roundw
                case rel => exact ⟨m + 1, by omega, by go_num, by rw [HY.out], by rw [HZ.out], hb.alloc hsz _⟩
                case measure => simp [intOf]; omega
            · obtain rfl : m = h.nt := by omega
              have v2 := true_bd HV.out own (fun k => qf (k % kn)) h.nt (Nat.le_refl _)
              obtain ⟨fl, hfl⟩ : ∃ fl, fl = h.trueN own (fun k => qf (k % kn)) h.nt := ⟨_, rfl⟩
              have v2b : 0 ≤ fl ∧ fl ≤ h.fhi own := by rw [hfl]; exact v2
              have v3 := HP1.out own (by rw [← HN.out]; exact hown) HOO.out
              have v4 := fhi_bd HV.out own
              have v5 := need_bd HV.out own
              have hnd : h.needN own h.nt = h.need own := rfl
              rw [hnd, ← hfl]
              have KH6 := Lib.hid (KH5.out.below hb)
              have T3 := Lib.hid (T2.out.below hb)
              clear hfl hnd v2 hb hsz
              obtain ⟨a0, a1, a2, a3, als⟩ := KH6.out
              go_wp2_with fail
              refine (refFlow_any h HV.out C hC ta ra tc rc _ (HT.out.mono hbr)).mono ?_
              rintro e w6 ⟨rfl, hb6⟩
              have hbw6 := hbr.trans (hb6.mono hbr.size)
              have hbB := hbw6.alloc hbw6.size (.cells #[.int .i64 (h.flo C), .int .i64 (h.fhi C)] 31)
              have KH7 := Lib.hid ((KH6.out.below hb6).below (below_alloc1 _ (.cells #[.int .i64 (h.flo C), .int .i64 (h.fhi C)] 31)))
              have T4 := Lib.hid ((T3.out.below hb6).below (below_alloc1 _ (.cells #[.int .i64 (h.flo C), .int .i64 (h.fhi C)] 31)))
              have T5 := Lib.hid (TB.new (h.flo C) (h.fhi C) w6)
              have n6 : ¬ w.heap.size = w6.heap.size := by have := (KH6.out.below hb6).ls; omega
              obtain ⟨c0, c1, c2, c3, cls⟩ := KH6.out.below hb6
              clear a0 a1 a2 a3 als hb6
              go_wp2_with fail
              refine (refFlow_any h HV.out own (by omega) ta ra tc rc _ (HT.out.mono hbB)).mono ?_
              rintro e w7 ⟨rfl, hb7⟩
              have hbw7 := hbB.trans (hb7.mono hbB.size)
              have hbC := hbw7.alloc hbw7.size (.cells #[.int .i64 (h.flo own), .int .i64 (h.fhi own)] 31)
              have KH8 := Lib.hid (KH7.out.below hb7)
              have T6 := Lib.hid (T4.out.below hb7)
              have T7 := Lib.hid (T5.out.below hb7)
              obtain ⟨d0, d1, d2, d3, dls⟩ := KH8.out
              obtain ⟨p0, p1, pls⟩ := T6.out
              obtain ⟨q0, q1, qls⟩ := T7.out
              have n7 : ¬ w.heap.size = w7.heap.size := by omega
              have n8 : ¬ w3.heap.size = w7.heap.size := by omega
              have n9 : ¬ w6.heap.size = w7.heap.size := by omega
              have f1 : ¬ h.fhi C < fl := by omega
              have f2 : ¬ A < h.flo own := by omega
              have f3 : ¬ h.fhi C < A := by omega
              clear c0 c1 c2 c3 cls
              go_wp2_with fail
              refine (Choose_any h ta ra oa tc rc n cap t _ g1 g2 g3 (HT.out.mono hbC) (HR.out.mono hbC) (HM.out.mono hbC)).mono ?_
              rintro e w8 ⟨rfl, hb8⟩
              have hbw8 := hbC.trans (hb8.mono hbC.size)
              have KH9 := Lib.hid ((KH8.out.below (below_alloc1 _ (.cells #[.int .i64 (h.flo own), .int .i64 (h.fhi own)] 31))).below hb8)
              clear d0 d1 d2 d3 dls p0 p1 pls q0 q1 qls hb7 hb8 f1 f2 f3
              cases hl : listB n t with
              | false =>
                rw [choose_list HV.out hl]
                have HL := Lib.hid hl
                clear hl
                go_wp2_with fail
                refine (refSizes_any oa n cap t _ g3 (HM.out.mono hbw8)).mono ?_
                rintro e w9 ⟨rfl, hb9⟩
                rw [HL.out]
                have hbw9 := hbw8.trans (hb9.mono hbw8.size)
                go_wp2_with fail
                refine (HA.out _).mono ?_
                rintro e wz ⟨rfl, hbz⟩
                go_wp2
                go_ret
                exact ⟨rfl, hbw9.trans (hbz.mono hbw9.size)⟩
              | true =>
                have HL := Lib.hid hl
                rcases choose_cases HV.out hl with ⟨k, hk, hch, hgk, -⟩ | ⟨hch, -⟩ | ⟨hch, -⟩
                · rw [hch]
                  obtain ⟨bk, off, rfl, hlt0, m0, m1, m2, m3⟩ := (HM.out.mono hbw8) k hk
                  obtain ⟨hfu, hst⟩ := good_yes hgk
                  obtain ⟨l1, l2, l3, l4⟩ := (listB_fair hl k hk).2
                  have hkn1 : ¬ (n : Int) ≤ (k : Int) := by omega
                  have hkn2 : (k : Int) < (n : Int) := by omega
                  obtain ⟨a0, a1, a2, a3, als⟩ := KH9.out
                  have n1 := valid_nt HV.out
                  have n10 : ¬ w.heap.size = w8.heap.size := by omega
                  by_cases h0 : own = 0
                  · have hz : ((own : Int) == 0) = true := by simp [h0]
                    clear hch hgk hfu hl h0
                    go_wp2_with fail
                    refine (HA.out _).mono ?_
                    rintro e wz ⟨rfl, hbz⟩
                    go_wp2
                    go_ret
                    exact ⟨rfl, (hbw8.alloc hbw8.size _).trans (hbz.mono (by have := hbw8.size; simp; omega))⟩
                  · obtain ⟨y1, y2⟩ := full_true (listB_fair hl k hk).2 hfu (by rw [← HN.out]; exact hown) HOO.out h0 v2b.1 v2b.2
                    have hz : ((own : Int) == 0) = false := by simpa using h0
                    have x1 := mulb (a := (t k).loss) (b := fl) (x := 10000) (y := 1000000) l3 l4 v2b.1 (by omega)
                    have x2 := mulb (a := (t k).loss * fl) (b := fl) (x := 10000 * 1000000) (y := 1000000) x1.1 x1.2 v2b.1 (by omega)
                    have x3 := mulsb (a := h.head - h.need own) (b := (t k).full) (x := 10000) (y := 1000000) (by omega) (by omega) (by omega) l2
                    have x4 := mulsb (a := (h.head - h.need own) * (t k).full) (b := (t k).full) (x := 10000 * 1000000) (y := 1000000) x3.1 x3.2 (by omega) l2
                    clear hch hgk hfu hl h0
                    go_wp2_with fail
                    refine (HA.out _).mono ?_
                    rintro e wz ⟨rfl, hbz⟩
                    go_wp2
                    go_ret
                    exact ⟨rfl, (hbw8.alloc hbw8.size _).trans (hbz.mono (by have := hbw8.size; simp; omega))⟩
                · rw [hch]
                  clear hch hl
                  go_wp2_with fail
                  refine (HA.out _).mono ?_
                  rintro e wz ⟨rfl, hbz⟩
                  go_wp2
                  go_ret
                  exact ⟨rfl, hbw8.trans (hbz.mono hbw8.size)⟩
                · rw [hch]
                  clear hch hl
                  go_wp2_with fail
                  refine (HA.out _).mono ?_
                  rintro e wz ⟨rfl, hbz⟩
                  go_wp2
                  go_ret
                  exact ⟨rfl, hbw8.trans (hbz.mono hbw8.size)⟩
        · replace hv : h.valid = false := by simpa using hv
          rw [hv]
          go_wp2_with fail
          refine (HA.out _).mono ?_
          rintro e wz ⟨rfl, hbz⟩
          go_wp2
          go_ret
          exact ⟨rfl, hbw2.trans (hbz.mono hbw2.size)⟩
end Go.Proofs.Ytckagcbjcpfjpaa
