/- The walk of SizeMore, given what alive comes to. -/
import Derived.Test.YtckagcbjcpfjpaaApp2
import Derived.Deep.DrawnRows
import Derived.Deep.RegionLaw
import Derived.Test.YtckagcbjcpfjpaaPhs
import Derived.Test.YtckagcbjcpfjpaaL9
import Derived.Test.YtckagcbjcpfjpaaP10
import Derived.Deep.DeepCutAuto
namespace Go.Proofs.Ytckagcbjcpfjpaa
open Go.RowKit
attribute [local go_sem ↓] Go.wp_at_zero Go.wp_at_succ
/-- what the loop of SizeMore reads -/
structure LQ (h : House) (ta ra : Option Addr) (tc rc g3 : Nat) (v : Value) (w A : World) : Prop where
  low : Below w.heap.size w A
  a3 : A.cell? ⟨w.heap.size, 3, none⟩ = some (.slice ra h.nr rc)
  lt : w.heap.size < A.heap.size
  box : Bs.Box g3 #[.int .i64 h.head, .int .i64 h.drip, .slice ta h.nt tc, v] 25 A
theorem LQ.on {h : House} {ta ra : Option Addr} {tc rc g3 : Nat} {v : Value} {w A B : World} (k : LQ h ta ra tc rc g3 v w A) (hb : Below A.heap.size A B) : LQ h ta ra tc rc g3 v w B :=
  ⟨k.low.trans (hb.mono k.low.size), (hb.cell (p := ⟨w.heap.size, 3, none⟩) k.lt).trans k.a3, Nat.lt_of_lt_of_le k.lt hb.size, k.box.below hb⟩
set_option maxRecDepth 100000 in
set_option maxHeartbeats 40000000 in
theorem more_of (halive : ∀ w, Calls Try.prog 13 #[] w (TrueEnd w)) (h : House) (m : Meter) (q : Rule) (wh by9 : Nat) (hwh : wh < 256) (hby : by9 < 256) (ta ra : Option Addr) (tc rc : Nat) (w : World) (hT : TapsAt w ta h.nt h.t) (hR : RulesAt w ra h.nr h.r) (hnT : ta = none → h.nt = 0 ∧ tc = 0) (hnR : ra = none → h.nr = 0 ∧ rc = 0) :
    Calls Try.prog 10 #[houseV h ta ra tc rc, m.val, q.val, .int .u8 (wh : Nat), .int .u8 (by9 : Nat)] w (TrueEnd w) := by
  have HA := Lib.hid halive
  have HT := Lib.hid hT
  have HR := Lib.hid hR
  clear halive hT hR
  go_enter Try.func10, Try.ntmps10
  go_wp2_with fail
  refine (great_any h 6 ta ra tc rc _).mono ?_
  rintro e w1 ⟨rfl, hb1⟩
  have KH := Lib.hid (((HBlk.new h ta ra tc rc w).below ((below_alloc1 _ (.cells #[.int .i64 m.start, .int .i64 m.full, .int .i64 m.loss, .int .i64 m.price] 27)).trans ((below_alloc1 _ (.cells #[.int .i64 q.taps, .int .i64 q.most] 65)).mono (by simp)))).below hb1)
  have KM : Hid (MB m (w.heap.size + 1) w1) := Lib.hid (by have x := ((MB.new m (w.alloc (.cells #[.int .i64 h.head, .int .i64 h.drip, .slice ta h.nt tc, .slice ra h.nr rc] 25))).below (below_alloc1 _ (.cells #[.int .i64 q.taps, .int .i64 q.most] 65))).below hb1; simpa using x)
  have KQ : Hid (TB q.taps q.most (w.heap.size + 1 + 1) w1) := Lib.hid ⟨(hb1.cell (p := ⟨w.heap.size + 1 + 1, 0, none⟩) (by simp)).trans (by simp [go_sem]), (hb1.cell (p := ⟨w.heap.size + 1 + 1, 1, none⟩) (by simp)).trans (by simp [go_sem]), by have := hb1.size; simp at this; omega⟩
  have hbw : Below w.heap.size w w1 := Below.trans (by repeat' (first | exact Below.refl _ _ | assumption | apply below_drewN | apply Below.drew | (refine Below.alloc ?_ ?_ _) | (refine Below.setCell ?_ ?_ _) | (simp; done) | (simp; omega) | omega)) (hb1.mono (by simp; omega))
  clear hb1
  by_cases hg : greatB h.nt h.nr 6 = true
  · rw [hg]
    go_wp2_with fail
    refine (HA.out _).mono ?_
    rintro e wz ⟨rfl, hbz⟩
    go_wp2
    go_ret
    exact ⟨rfl, hbw.trans (hbz.mono hbw.size)⟩
  · replace hg : greatB h.nt h.nr 6 = false := by simpa using hg
    have g1 : h.nt ≤ 1000000 := by have := great_no hg; omega
    have g2 : h.nr ≤ 1000000 := by have := great_no hg; omega
    have HG16 := Lib.hid (great_no hg)
    rw [hg]
    clear hg
    obtain ⟨a0, a1, a2, a3, als⟩ := KH.out.hb
    by_cases hn : (8 : Int) ≤ (h.nr : Int)
    · skip
      go_wp2_with fail
      refine (HA.out _).mono ?_
      rintro e wz ⟨rfl, hbz⟩
      go_wp2
      go_ret
      exact ⟨rfl, hbw.trans (hbz.mono hbw.size)⟩
    · have g3 : h.nr < 8 := by omega
      have G3 := Lib.hid g3
      go_wp2_with fail
      refine (refHouse_any h ta ra tc rc _ g1 g2 (HT.out.mono hbw) (HR.out.mono hbw)).mono ?_
      rintro e w2 ⟨rfl, hb2⟩
      have KH2 := Lib.hid (KH.out.below hb2)
      have KM2 := Lib.hid (KM.out.below hb2)
      have KQ2 := Lib.hid (KQ.out.below hb2)
      have hbw2 := hbw.trans (hb2.mono hbw.size)
      clear a0 a1 a2 a3 als hb2 KH KM KQ hbw
      by_cases hv : h.valid = true
      · rw [hv]
        have HV := Lib.hid hv
        have hnt := valid_nt hv
        clear hv
        obtain ⟨a0, a1, a2, a3, als⟩ := KH2.out.hb
        obtain ⟨m0, m1, m2, m3, mls⟩ := KM2.out
        go_wp2_with fail
        refine (Starved_any h m ta ra tc rc _ g1 g2 (HT.out.mono hbw2) (HR.out.mono hbw2)).mono ?_
        rintro e w3 ⟨rfl, hb3⟩
        have KH3 := Lib.hid (KH2.out.below hb3)
        have KM3 := Lib.hid (KM2.out.below hb3)
        have KQ3 := Lib.hid (KQ2.out.below hb3)
        have hbw3 := hbw2.trans (hb3.mono hbw2.size)
        obtain ⟨⟨set, pr9, e9⟩, hS⟩ : ∃ x, x = h.starvedR m := ⟨_, rfl⟩
        rw [← hS]
        have HS := Lib.hid hS
        clear a0 a1 a2 a3 als m0 m1 m2 m3 mls hb3 KH2 KM2 KQ2 hbw2 hS
        obtain ⟨a0, a1, a2, a3, als⟩ := KH3.out.hb
        obtain ⟨m0, m1, m2, m3, mls⟩ := KM3.out
        dsimp only
        go_wp2_with fail
        refine (Least_any h m.loss ta ra tc rc _ g1 g2 (HT.out.mono hbw3) (HR.out.mono hbw3)).mono ?_
        rintro e w4 ⟨n9, f9, rfl, hb4, hL⟩
        have HL := Lib.hid (show LeastIs h m.loss n9 f9 from hL)
        have KH4 := Lib.hid (KH3.out.below hb4)
        have KM4 := Lib.hid (KM3.out.below hb4)
        have KQ4 := Lib.hid (KQ3.out.below hb4)
        have hbw4 := hbw3.trans (hb4.mono hbw3.size)
        clear a0 a1 a2 a3 als m0 m1 m2 m3 mls hb4 KH3 KM3 KQ3 hbw3 hL
        obtain ⟨a0, a1, a2, a3, als⟩ := KH4.out.hb
        go_wp2_with fail
        refine (peak_all h ta ra tc rc _ g1 g2 (HT.out.mono hbw4) (HR.out.mono hbw4)).mono ?_
        rintro e w5 ⟨rfl, hb5⟩
        have KH5 := Lib.hid (KH4.out.below hb5)
        have KM5 := Lib.hid (KM4.out.below hb5)
        have KQ5 := Lib.hid (KQ4.out.below hb5)
        have hbw5 := hbw4.trans (hb5.mono hbw4.size)
        obtain ⟨⟨p1, p2, own9, pe9⟩, hP⟩ : ∃ x, x = h.peakR := ⟨_, rfl⟩
        rw [← hP]
        have HP := Lib.hid hP
        clear a0 a1 a2 a3 als hb5 KH4 KM4 KQ4 hbw4 hP
        obtain ⟨a0, a1, a2, a3, als⟩ := KH5.out.hb
        dsimp only
        obtain ⟨k, hk⟩ : ∃ k, k = wh % h.nt := ⟨_, rfl⟩
        have hkn : k < h.nt := by rw [hk]; exact Nat.mod_lt _ (by omega)
        have hk2 : (wh : Int) % (h.nt : Int) = (k : Int) := by rw [hk]; simp
        have HK := Lib.hid hk
        clear hk
        go_wp2_with fail
        simp only [hk2]
        have KH6 := Lib.hid (KH5.out.below (below_alloc1 w5 (.cells #[.int .i64 p1, .int .i64 p2] 31)))
        have KM6 := Lib.hid (KM5.out.below (below_alloc1 w5 (.cells #[.int .i64 p1, .int .i64 p2] 31)))
        have KQ6 := Lib.hid (KQ5.out.below (below_alloc1 w5 (.cells #[.int .i64 p1, .int .i64 p2] 31)))
        have KP6 := Lib.hid (TB.new p1 p2 w5)
        have hbw6 := hbw5.trans ((below_alloc1 w5 (.cells #[.int .i64 p1, .int .i64 p2] 31)).mono hbw5.size)
        obtain ⟨pb, hpb⟩ : ∃ x, x = w5.heap.size := ⟨_, rfl⟩
        rw [← hpb] at KP6 ⊢
        obtain ⟨w6, hw6⟩ : ∃ X, X = w5.alloc (.cells #[.int .i64 p1, .int .i64 p2] 31) := ⟨_, rfl⟩
        rw [← hw6] at KH6 KM6 KQ6 KP6 hbw6 ⊢
        clear hw6 hpb KH5 KM5 KQ5 hbw5 a0 a1 a2 a3 als
        obtain ⟨a0, a1, a2, a3, als⟩ := KH6.out.hb
        go_upto_region 8 with fail
        go_cut [20, 21, 22, 23] (fun s20 s21 s22 s23 wx => Below w6.heap.size w6 wx ∧ Quad h ta ra tc rc w6.heap.size s20 s21 s22 s23 wx)
        case first =>
          as_aux_lemma =>
            refine wp_copies (n := 4) (T := 25) (src := 5) (L := fun k => 80 + k) (D := fun k => 20 + k) (hb := w.heap.size) (cs := #[.int .i64 h.head, .int .i64 h.drip, .slice ta h.nt tc, .slice ra h.nr rc]) (zs := #[.int .i64 0, .int .i64 0, .slice none 0 0, .slice none 0 0]) ?_ Try.underlying25 ?_ ?_ ?_ ?_ ?_ ?_ ?_ ?_ ?_ ?_ ?_ ?_ ?_ ?_ ?_ ?_ ?_ KH6.out ?_
            · kernel_rfl
            · rfl
            · kernel_rfl
            · kernel_rfl
            · intro W; kernel_rfl
            · rfl
            · rfl
            · kernel_rfl
            · intro k hk
              match k, hk with
              | 0, _ => exact ⟨_, rfl, rfl, rfl, rfl⟩
              | 1, _ => exact ⟨_, rfl, rfl, rfl, rfl⟩
              | 2, _ => exact ⟨_, rfl, rfl, rfl, rfl⟩
              | 3, _ => exact ⟨_, rfl, rfl, rfl, rfl⟩
              | k + 4, hk => exact absurd hk (by omega)
            · intro k hk
              match k, hk with
              | 0, _ => exact ⟨_, rfl, rfl, rfl, rfl⟩
              | 1, _ => exact ⟨_, rfl, rfl, rfl, rfl⟩
              | 2, _ => exact ⟨_, rfl, rfl, rfl, rfl⟩
              | 3, _ => exact ⟨_, rfl, rfl, rfl, rfl⟩
              | k + 4, hk => exact absurd hk (by omega)
            · intro k hk
              match k, hk with
              | 0, _ => exact ⟨_, rfl, rfl, rfl, rfl, by kernel_rfl, by kernel_rfl⟩
              | 1, _ => exact ⟨_, rfl, rfl, rfl, rfl, by kernel_rfl, by kernel_rfl⟩
              | 2, _ => exact ⟨_, rfl, rfl, rfl, rfl, by kernel_rfl, by kernel_rfl⟩
              | 3, _ => exact ⟨_, rfl, rfl, rfl, rfl, by kernel_rfl, by kernel_rfl⟩
              | k + 4, hk => exact absurd hk (by omega)
            · intro k hk
              show 80 + k < 283
              omega
            · intro k hk
              show 20 + k < 283
              omega
            · intro k k' _ _ h
              show 80 + k ≠ 80 + k'
              omega
            · intro k k' _ _ h
              show 20 + k ≠ 20 + k'
              omega
            · intro k k' h h'
              show 80 + k ≠ 20 + k'
              omega
            · intro k hk
              show 5 ≠ 80 + k ∧ 5 ≠ 20 + k
              omega
            · rfl
            intro g wx hbx hg hne
            have q0 := hg 0 (by omega)
            have q1 := hg 1 (by omega)
            have q2 := hg 2 (by omega)
            have q3 := hg 3 (by omega)
            have HQ := Lib.hid (show Quad h ta ra tc rc w6.heap.size (.pointer (some ⟨g 0, 0, none⟩)) (.pointer (some ⟨g 1, 0, none⟩)) (.pointer (some ⟨g 2, 0, none⟩)) (.pointer (some ⟨g 3, 0, none⟩)) wx from
              ⟨_, _, _, _, rfl, rfl, rfl, rfl, hne 0 1 (by omega) (by omega) (by omega), hne 0 2 (by omega) (by omega) (by omega), hne 0 3 (by omega) (by omega) (by omega), hne 1 2 (by omega) (by omega) (by omega), hne 1 3 (by omega) (by omega) (by omega), hne 2 3 (by omega) (by omega) (by omega), ⟨q0.1, q1.1, q2.1, q3.1⟩, q0.2, q1.2, q2.2, q3.2⟩)
            clear hg hne q0 q1 q2 q3
            simp only [putCopies, Nat.add_zero, Nat.reduceAdd, Act.put, List.setIfInBounds_toArray, List.set_cons_zero, List.set_cons_succ]
            go_wp2_with fail
            go_meet
            exact ⟨hbx, HQ.out⟩
        case rest =>
          obtain ⟨hbx, g0, g1, g2, g3, rfl, rfl, rfl, rfl, n01, n02, n03, n12, n13, n23, ⟨l0, l1, l2, l3⟩, B0, B1, B2, B3⟩ := hcut
          have hz6 := als
          have hs67 := hbx.size
          have hm6 := KM6.out.ls
          have hq6 := KQ6.out.ls
          have KH7 := Lib.hid (KH6.out.below hbx)
          have KM7 := Lib.hid (KM6.out.below hbx)
          have KQ7 := Lib.hid (KQ6.out.below hbx)
          have KP7 := Lib.hid (KP6.out.below hbx)
          have hbw7 := hbw6.trans (hbx.mono hbw6.size)
          have D := Lib.hid (And.intro n01 (And.intro n02 (And.intro n03 (And.intro n12 (And.intro n13 n23)))))
          have C1 := Lib.hid B1
          have C2 := Lib.hid B2
          have C3 := Lib.hid B3
          have C0 := Lib.hid B0
          obtain ⟨w7, hw7⟩ : ∃ X, X = wc := ⟨_, rfl⟩
          rw [← hw7] at KH7 KM7 KQ7 KP7 hbw7 hs67 C0 C1 C2 C3 ⊢
          clear hw7 B0 B1 B2 B3 hbx a0 a1 a2 a3 als n01 n02 n03 n12 n13 n23
          obtain ⟨a0, a1, a2, a3, als⟩ := KH7.out.hb
          have b0 := C0.out.hb.a0
          have f0 := C0.out.frozen 0
          go_upto_region 9 with fail
          have E8 : But g0 w7 (w7.setCell ⟨g0, 0, none⟩ (.int .i64 (min 10000 (h.head + by9)))) := (But.of_below (Below.refl _ _)).setCell 0 _
          have D0 : Hid (HBlk (h.rich by9) ta ra tc rc g0 (w7.setCell ⟨g0, 0, none⟩ (.int .i64 (min 10000 (h.head + by9))))) := Lib.hid (C0.out.set0 _)
          obtain ⟨w8, hw8⟩ : ∃ X, X = w7.setCell ⟨g0, 0, none⟩ (.int .i64 (min 10000 (h.head + by9))) := ⟨_, rfl⟩
          rw [← hw8] at E8 D0 ⊢
          clear hw8 a0 a1 a2 a3 als b0 f0
          have hle8 : w.heap.size ≤ g0 ∧ w7.heap.size ≤ w8.heap.size := ⟨by omega, E8.size⟩
          have hbw8 : Below w.heap.size w w8 := E8.below hle8.1 hbw7 hbw7.size
          have s7 : w6.heap.size ≤ w7.heap.size ∧ pb < w6.heap.size := ⟨hs67, KP6.out.ls⟩
          have bel : ∀ k, k < w6.heap.size → w8.heap[k]? = w7.heap[k]? := fun k hk => E8.block k (by omega) (by omega)
          have KH8 := Lib.hid (show HBlk h ta ra tc rc w.heap.size w8 from (bel _ hz6).trans KH7.out)
          have KM8 := Lib.hid (KM7.out.same (bel _ hm6))
          have KQ8 := Lib.hid (KQ7.out.same (bel _ hq6))
          have KP8 := Lib.hid (KP7.out.same (bel _ s7.2))
          have D1 := Lib.hid (E8.hblk C1.out (Ne.symm D.out.1))
          have D2 := Lib.hid (E8.hblk C2.out (Ne.symm D.out.2.1))
          have D3 := Lib.hid (E8.hblk C3.out (Ne.symm D.out.2.2.1))
          clear bel E8 KH7 KM7 KQ7 KP7 C0 C1 C2 C3 hbw7
          obtain ⟨a0, a1, a2, a3, als⟩ := KH8.out.hb
          obtain ⟨iR, hiR, hzR0, hzR1, hzR2⟩ := info_parts (P := Try.prog) (e := 65) (z := .agg #[.int .i64 0, .int .i64 0]) (size := 2) (bytes := 16) (by kernel_rfl)
          go_cut [97] (fun s97 wx => But g1 w8 wx ∧ ∃ oa c, HBlk (h.strict q) ta oa tc c g1 wx ∧ RulesAt wx oa (h.nr + 1) (h.strict q).r ∧ ∀ a, oa = some a → w8.heap.size ≤ a.block)
          case first =>
            obtain ⟨q0, q1, qls⟩ := KQ8.out
            have b3 := D1.out.hb.a3
            have lg1 := blk_lt D1.out
            have f3 := D1.out.frozen 3
            have hne1 : w.heap.size ≠ g1 := by omega
            have hne2 : w.heap.size + 1 + 1 ≠ g1 := by omega
            as_aux_lemma =>
              go_region_held3 (fun w' => w'.cell? ⟨w.heap.size, 3, none⟩ = some (.slice ra h.nr rc) ∧ w'.cell? ⟨w.heap.size + 1 + 1, 0, none⟩ = some (.int .i64 q.taps) ∧ w'.cell? ⟨w.heap.size + 1 + 1, 1, none⟩ = some (.int .i64 q.most)) ((refine ⟨(But.cell (g := g1) (w := w8) ?_ als hne1).trans a3, (But.cell (g := g1) (w := w8) ?_ qls hne2).trans q0, (But.cell (g := g1) (w := w8) ?_ qls hne2).trans q1⟩ <;> exact (by repeat' (first | assumption | exact But.refl _ _ | apply But.drew | (refine But.alloc ?_ _) | (refine But.setCell ?_ _ _) | (refine But.of_below ?_))))) (first | ((refine step_append_new (by rfl) (.tmp 91) (.tmp 93) _ (by rfl) w8.heap.size 65 iR _ 2 16 Try.underlying23 hiR hzR0 hzR1 hzR2 rfl (by omega) _ (by rfl) ra h.nr rc (ruleNews h.nr h.r) (by rfl) (by refine owns_empty (by first | omega | (simp; done) | (simp; omega)) ?_; repeat' (first | exact heap_new (by first | omega | (simp; done) | (simp; omega)) | (refine heap_old (by first | omega | (simp; done) | (simp; omega)) ?_))) hnR (by simp [ruleNews]) (rules_news ((HR.out.mono hbw8).mono (by repeat' (first | assumption | exact Below.refl _ _ | apply Below.drew | (refine Below.alloc ?_ (by first | omega | (simp; done) | (simp; omega)) _))))) news_one (by simp only [maxLen]; omega) (by omega) (by first | omega | (simp; done) | (simp; omega)) ?_; intro vR wR hownR hgrowR; have hsR := hgrowR.size; (try simp at hsR); have hbR := below_grown (w1 := w8) (e := 65) (size := 2) (n := 0) (xs := []) (by repeat' (first | assumption | exact Below.refl _ _ | apply Below.drew | (refine Below.alloc ?_ (by first | omega | (simp; done) | (simp; omega)) _))) (by refine owns_empty (by first | omega | (simp; done) | (simp; omega)) ?_; repeat' (first | exact heap_new (by first | omega | (simp; done) | (simp; omega)) | (refine heap_old (by first | omega | (simp; done) | (simp; omega)) ?_))) hgrowR; have hxR := hbR.size)) | ((refine step_append_gen (by rfl) (.tmp 94) (.tmp 96) _ (by rfl) w8.heap.size 65 iR _ 2 16 Try.underlying23 hiR hzR0 hzR1 hzR2 rfl (by omega) vR h.nr (ruleNews h.nr h.r) (by rfl) _ 1 1 [.int .i64 q.taps, .int .i64 q.most] (by rfl) (by first | exact hownR | exact (hownR).alloc _ | exact hownR.drew) (fun e9 => by cases e9) rfl (fun ad9 e9 j9 u9 hu9 => by cases e9; refine news_blk2 (e := 65) ?_ hu9; repeat' (first | exact heap_new (by first | omega | (simp; done) | (simp; omega)) | (refine heap_old (by first | omega | (simp; done) | (simp; omega)) ?_) | (refine heap_grown hgrowR (by first | omega | (simp; done) | (simp; omega)) (by simp [Value.ownBlock] <;> omega) ?_))) (by simp [Value.oneCell']) (by simp only [maxLen]; omega) (by omega) (by first | omega | (simp; done) | (simp; omega)) ?_; intro vS wS hownS hgrowS; have hsS := hgrowS.size; (try simp at hsS); have hbS := below_grown (w1 := w8) (e := 65) (size := 2) (n := h.nr) (xs := ruleNews h.nr h.r) (by repeat' (first | assumption | exact Below.refl _ _ | apply Below.drew | (refine Below.alloc ?_ (by first | omega | (simp; done) | (simp; omega)) _))) (by first | exact hownR | exact (hownR).alloc _ | exact hownR.drew) hgrowS; have hxS := hbS.size; obtain ⟨oS, cS, rfl, hXS, hoS⟩ := owns_rules2 (t := (h.strict q).r) (strict_news hownS); have hc3 := (hbS.cell (p := ⟨g1, 3, none⟩) lg1).trans b3; have hf3 := (hbS.frozen (p := ⟨g1, 3, none⟩) lg1).trans f3)))
              all_goals
                go_wp2_with fail
                go_meet
                have E : But g1 w8 wS := But.of_below hbS
                exact ⟨by first | exact E.setCell _ _ | exact (E.setCell _ _).drew, oS, cS, by first | exact (E.hblk_self hbS D1.out).set3 _ _ _ _, hXS.but (fun a ha => by have := hoS a ha; omega) ((But.refl g1 wS).setCell _ _), hoS⟩
          case rest =>
            obtain ⟨E9, oS, cS, SB, SR, hoS⟩ := hcut
            have lg := And.intro (blk_lt D1.out) (And.intro (blk_lt D2.out) (blk_lt D3.out))
            have hs9 := E9.size
            have hbw9 : Below w.heap.size w wc := E9.below (by omega) hbw8 hbw8.size
            have KH9 := Lib.hid (E9.hblk KH8.out (by omega))
            have KM9 := Lib.hid (KM8.out.same (E9.block _ KM8.out.ls (by omega)))
            have KP9 := Lib.hid (KP8.out.same (E9.block _ KP8.out.ls (by omega)))
            have F0 := Lib.hid (E9.hblk D0.out D.out.1)
            have F2 := Lib.hid (E9.hblk D2.out (Ne.symm D.out.2.2.2.1))
            have F3 := Lib.hid (E9.hblk D3.out (Ne.symm D.out.2.2.2.2.1))
            have F1 := Lib.hid SB
            have R1 := Lib.hid SR
            have O1 := Lib.hid hoS
            have O2 := Lib.hid (show ∀ a, oS = some a → a.block < wc.heap.size from fun a ha => by
              obtain ⟨b, off, e, hlt, _⟩ := SR 0 (by omega)
              cases ha.symm.trans e
              exact hlt)
            obtain ⟨w9, hw9⟩ : ∃ X, X = wc := ⟨_, rfl⟩
            rw [← hw9] at hs9 hbw9 KH9 KM9 KP9 F0 F1 F2 F3 R1 O2 ⊢
            clear hw9 E9 SB SR hoS KH8 KM8 KP8 KQ8 D0 D1 D2 D3 hbw8 a0 a1 a2 a3 als iR hiR hzR0 hzR1 hzR2
            obtain ⟨a0, a1, a2, a3, als⟩ := KH9.out.hb
            obtain ⟨iT, hiT, hzT0, hzT1, hzT2⟩ := info_parts (P := Try.prog) (e := 52) (z := .agg #[.int .i64 0, .int .i64 0, .int .i64 0]) (size := 3) (bytes := 24) (by kernel_rfl)
            have b2 := F2.out.hb.a2
            have f2 := F2.out.frozen 2
            have lg2 := blk_lt F2.out
            have lg0 := blk_lt F0.out
            have lg1 := blk_lt F1.out
            have lg3 := blk_lt F3.out
            have hnt9 : h.nt ≤ 10 := hnt.2.1
            go_upto_region 11 with (at_builtin; refine wpList_append_gen rfl (.tmp 99) (.tmp 101) _ rfl w9.heap.size 52 iT _ 3 24 Try.underlying22 hiT hzT0 hzT1 hzT2 rfl (by omega) (.slice (some ⟨w9.heap.size, 0, none⟩) 0 0) 0 [] rfl ta h.nt tc (tapNews h.nt h.t) rfl (owns_empty (Nat.le_refl _) (heap_new rfl)) hnT (by simp [tapNews]) (taps_news ((HT.out.mono hbw9).mono (below_alloc1 _ _))) news_one (by simp only [maxLen]; omega) (by omega) (by simp) ?_; intro vT wT hownT hgrowT; have hbT := below_grown (w1 := w9) (below_alloc1 _ _) (owns_empty (e := 52) (size := 3) (Nat.le_refl _) (heap_new rfl)) hgrowT; obtain ⟨gT, cT, rfl, hgT, TR⟩ := owns_trow (t := h.t) (n := h.nt) (by simpa using hownT) (by omega); have hc2 := (hbT.cell (p := ⟨g2, 2, none⟩) lg2).trans b2; have hf2 := (hbT.frozen (p := ⟨g2, 2, none⟩) lg2).trans f2)
            have E10 : But g2 w9 (wT.setCell ⟨g2, 2, none⟩ (.slice (some ⟨gT, 0, none⟩) h.nt cT)) := (But.of_below hbT).setCell 2 _
            have G2 : Hid (HBlk h (some ⟨gT, 0, none⟩) ra cT rc g2 (wT.setCell ⟨g2, 2, none⟩ (.slice (some ⟨gT, 0, none⟩) h.nt cT))) := Lib.hid ((F2.out.below hbT).set2 _ _ _ h.t)
            have T10 : TRow gT h.nt h.t (wT.setCell ⟨g2, 2, none⟩ (.slice (some ⟨gT, 0, none⟩) h.nt cT)) := TR.same (Below.heap_setCell wT ⟨g2, 2, none⟩ _ gT (by show gT ≠ g2; omega))
            obtain ⟨w10, hw10⟩ : ∃ X, X = wT.setCell ⟨g2, 2, none⟩ (.slice (some ⟨gT, 0, none⟩) h.nt cT) := ⟨_, rfl⟩
            rw [← hw10] at E10 G2 T10 ⊢
            have hs10 := E10.size
            have hbw10 : Below w.heap.size w w10 := E10.below (by omega) hbw9 hbw9.size
            have KH10 := Lib.hid (E10.hblk KH9.out (by omega))
            have KM10 := Lib.hid (KM9.out.same (E10.block _ KM9.out.ls (by omega)))
            have KP10 := Lib.hid (KP9.out.same (E10.block _ KP9.out.ls (by omega)))
            have G0 := Lib.hid (E10.hblk F0.out D.out.2.1)
            have G1 := Lib.hid (E10.hblk F1.out D.out.2.2.2.1)
            have G3 := Lib.hid (E10.hblk F3.out (Ne.symm D.out.2.2.2.2.2))
            have R10 := Lib.hid (R1.out.but (fun a ha => by have := O1.out a ha; omega) E10)
            have lgT := T10.lt
            clear hw10 E10 hc2 hf2 hownT hgrowT hbT TR KH9 KM9 KP9 F0 F1 F2 F3 R1 hbw9 a0 a1 a2 a3 als b2 f2 iT hiT hzT0 hzT1 hzT2
            obtain ⟨c0, c1, c2⟩ := T10.cells hkn
            have f1 := T10.frozen (k * 3 + 1)
            have b2 := G2.out.hb.a2
            have HB9 := Lib.hid (valid_tap HV.out k hkn)
            have hbd := HB9.out
            have hk9 : (k : Int) < (h.nt : Int) := by omega
            go_still_tail 24, (by kernel_rfl)
            change wpList _ _ _ _ _ w10.drew
            have c1' : w10.drew.cell? ⟨gT, k * 3 + 1, none⟩ = some (.int .i64 (h.t k).hi) := c1
            have f1' : w10.drew.frozen? ⟨gT, k * 3 + 1, none⟩ = false := f1
            go_upto_region 12 with fail
            have T11 : TRow gT h.nt _ (w10.setCell ⟨gT, k * 3 + 1, none⟩ (.int .i64 (max (h.t k).lo ((h.t k).hi - by9)))).drew := (T10.setHi hkn (max (h.t k).lo ((h.t k).hi - by9))).same rfl
            have E11 : But gT w10 (w10.setCell ⟨gT, k * 3 + 1, none⟩ (.int .i64 (max (h.t k).lo ((h.t k).hi - by9)))).drew := ((But.refl gT w10).setCell _ _).drew
            obtain ⟨w11, hw11⟩ : ∃ X, X = (w10.setCell ⟨gT, k * 3 + 1, none⟩ (.int .i64 (max (h.t k).lo ((h.t k).hi - by9)))).drew := ⟨_, rfl⟩
            rw [← hw11] at E11 T11 ⊢
            clear hw11 c0 c1 c2 c1' f1' b2
            have b2 := (G2.out.but E11 (by omega)).hb.a2
            have c2 : w11.cell? ⟨gT, k * 3 + 2, none⟩ = some (.int .i64 (h.t k).need) := by have x := (T11.cells hkn).2.2; simpa using x
            have c2' : w11.drew.cell? ⟨gT, k * 3 + 2, none⟩ = some (.int .i64 (h.t k).need) := c2
            have f2' : w11.drew.frozen? ⟨gT, k * 3 + 2, none⟩ = false := T11.frozen (k * 3 + 2)
            have TT := Lib.hid T11
            clear T10 T11
            go_still_tail 16, (by kernel_rfl)
            change wpList _ _ _ _ _ w11.drew
            go_upto_region 13 with fail
            have T12 : TRow gT h.nt (h.less k by9).t (w11.setCell ⟨gT, k * 3 + 2, none⟩ (.int .i64 (max 0 ((h.t k).need - (by9 : Int) % 7)))).drew := by
              rw [← less_fun]
              exact (TT.out.setNeed hkn (max 0 ((h.t k).need - (by9 : Int) % 7))).same rfl
            have E12 : But gT w10 (w11.setCell ⟨gT, k * 3 + 2, none⟩ (.int .i64 (max 0 ((h.t k).need - (by9 : Int) % 7)))).drew := (E11.setCell _ _).drew
            obtain ⟨w12, hw12⟩ : ∃ X, X = (w11.setCell ⟨gT, k * 3 + 2, none⟩ (.int .i64 (max 0 ((h.t k).need - (by9 : Int) % 7)))).drew := ⟨_, rfl⟩
            rw [← hw12] at E12 T12 ⊢
            have hs12 := E12.size
            have hbw12 : Below w.heap.size w w12 := E12.below (by omega) hbw10 hbw10.size
            have KH12 := Lib.hid (E12.hblk KH10.out (by omega))
            have KM12 := Lib.hid (KM10.out.same (E12.block _ KM10.out.ls (by have := KM10.out.ls; omega)))
            have KP12 := Lib.hid (KP10.out.same (E12.block _ KP10.out.ls (by omega)))
            have I0 := Lib.hid (E12.hblk G0.out (by omega))
            have I1 := Lib.hid (E12.hblk G1.out (by omega))
            have I2 := Lib.hid (E12.hblk G2.out (by omega))
            have I3 := Lib.hid (E12.hblk G3.out (by omega))
            have R12 := Lib.hid (R10.out.but (fun a ha => by have := O2.out a ha; omega) E12)
            have lgT12 := T12.lt
            have TX := Lib.hid T12
            clear hw12 E11 E12 T12 TT c2 c2' f2' b2 KH10 KM10 KP10 G0 G1 G2 G3 R10 hbw10 HB9 hbd f1
            -- region 13: the rules of the turned house
            have f3 := I3.out.frozen 3
            have b3 := I3.out.hb.a3
            have z3 := blk_lt I3.out
            go_upto_region 14 with fail
            have E13 : But g3 w12 (w12.setCell ⟨g3, 3, none⟩ (.slice none 0 0)) := (But.refl g3 w12).setCell _ _
            have V13 : VBlk h ta tc g3 (.slice none 0 0) (w12.setCell ⟨g3, 3, none⟩ (.slice none 0 0)) := I3.out.vset _
            obtain ⟨w13, hw13⟩ : ∃ X, X = w12.setCell ⟨g3, 3, none⟩ (.slice none 0 0) := ⟨_, rfl⟩
            rw [← hw13] at E13 V13 ⊢
            have hs13 := E13.size
            have hbw13 : Below w.heap.size w w13 := E13.below (by omega) hbw12 hbw12.size
            have KH13 := Lib.hid (E13.hblk KH12.out (by omega))
            have KM13 := Lib.hid (KM12.out.same (E13.block _ KM12.out.ls (by have := KM12.out.ls; omega)))
            have KP13 := Lib.hid (KP12.out.same (E13.block _ KP12.out.ls (by omega)))
            have J0 := Lib.hid (E13.hblk I0.out D.out.2.2.1)
            have J1 := Lib.hid (E13.hblk I1.out D.out.2.2.2.2.1)
            have J2 := Lib.hid (E13.hblk I2.out D.out.2.2.2.2.2)
            have TY := Lib.hid (TX.out.but E13 (by omega))
            have R13 := Lib.hid (R12.out.but (fun a ha => by have := O1.out a ha; omega) E13)
            have z13 : g3 < w13.heap.size := by omega
            have VX := Lib.hid V13
            clear hw13 E13 V13 KH12 KM12 KP12 I0 I1 I2 I3 TX R12 hbw12 f3 b3
            obtain ⟨iR, hiR, hzR0, hzR1, hzR2⟩ := info_parts (P := Try.prog) (e := 65) (z := .agg #[.int .i64 0, .int .i64 0]) (size := 2) (bytes := 16) (by kernel_rfl)
            have a3 := KH13.out.hb.a3
            go_wp2_with fail
            go_loopw [148] (fun v148 wr => ∃ j v, j ≤ h.nr ∧ v148 = .int .i64 (j : Nat) ∧ But g3 w13 wr ∧ wr.ownsRow w13.heap.size 65 2 v j (ruleNews j (h.turned wh).r) ∧ VBlk h ta tc g3 v wr) (fun i _ => h.nr - (intOf i).toNat)
            case atStart => exact ⟨0, .slice none 0 0, Nat.zero_le _, rfl, But.refl _ _, ⟨rfl, .inl ⟨rfl, rfl⟩⟩, VX.out⟩
            case round =>
              obtain ⟨j, v, hj, rfl, hbut, hown, hV⟩ := hrel
              have hbr : Below w.heap.size w wr := hbut.below (by omega) hbw13 hbw13.size
              have hsr := hbut.size
              obtain ⟨oa, cap, rfl, hXX, hoa⟩ := owns_rules2 hown
              have HXX := Lib.hid hXX
              clear hXX
              have a3r := (hbut.cell (i := 3) (blk_lt KH13.out) (by omega)).trans a3
              have v3 := hV.cell
              by_cases hlt : j < h.nr
              · skip
                as_aux_lemma =>
                  obtain ⟨i, hi⟩ : ∃ i, i = (j + wh) % h.nr := ⟨_, rfl⟩
                  have hin : i < h.nr := by rw [hi]; exact Nat.mod_lt _ (by omega)
                  have hi2 : ((j : Int) + (wh : Int)) % (h.nr : Int) = (i : Int) := by rw [hi]; simp
                  have HI := Lib.hid hi
                  clear hi
                  obtain ⟨b, off, rfl, hlt0, m0, m1⟩ := HR.out i hin
                  have hlt9 : (j : Int) < (h.nr : Int) := by omega
                  have hin9 : (i : Int) < (h.nr : Int) := by omega
                  have HOWN := Lib.hid hown
                  have HV9 := Lib.hid hV
                  have HBUT := Lib.hid hbut
                  clear hown hV hbut
                  have hz1 : ((h.nr : Int) == 0) = false := by simp; omega
                  have hz2 : (h.nr == 0) = false := by simp; omega
                  have hz3 : ¬ h.nr = 0 := by omega
                  have hw1 : IntKind.i64.wrap ((j : Int) + (wh : Int)) = (j : Int) + (wh : Int) := IntWalk.i64_in _ (by omega)
                  have hw2 : ((j : Int) + (wh : Int)).tmod (h.nr : Int) = (i : Int) := by rw [Int.tmod_eq_emod_of_nonneg (by omega)]; exact hi2
                  have hw3 : (0 : Int) ≤ (j : Int) + (wh : Int) := by omega
                  have hw0 : IntKind.i64.wrap (wh : Int) = (wh : Int) := IntWalk.i64_in _ (by omega)
                  have hj0 : (0 : Int) ≤ (i : Int) := by omega
                  go_wp2_with fail
                  have hP0 : ∀ A B : World, LQ h ta (some ⟨b, off, none⟩) tc rc g3 (.slice oa j cap) w A → Below A.heap.size A B → LQ h ta (some ⟨b, off, none⟩) tc rc g3 (.slice oa j cap) w B := fun A B h1 h2 => h1.on h2
                  have hP1 : ∀ A B : World, True → Below A.heap.size A B → True := fun _ _ _ _ => trivial
                  have hC0 : LQ h ta (some ⟨b, off, none⟩) tc rc g3 (.slice oa j cap) w wr.drew := LQ.on ⟨hbr, a3r, by omega, ⟨HV9.out⟩⟩ (Below.refl _ _).drew
                  refine Bs.wp_region_phase 17 (LQ h ta (some ⟨b, off, none⟩) tc rc g3 (.slice oa j cap) w) (fun _ => True) (by kernel_rfl) ?_
                  (refine Bs.wpAnyP_take0 (i := 0) hP0 hP1 hC0 (by decide) (by rfl) rfl (by kernel_rfl) rfl (by kernel_rfl) (by kernel_rfl) (by kernel_rfl) (fun _ _ _ _ h => h) (by rfl) ?_; apply Exists.intro; refine ⟨fun w1 h1 K hK => ?_, ?_⟩; · ( go_big_quiet_op; first | exact hK | fail))
                  (refine Bs.wpAnyP_take0 (i := 1) hP0 hP1 hC0 (by decide) (by rfl) rfl (by kernel_rfl) rfl (by kernel_rfl) (by kernel_rfl) (by kernel_rfl) (fun _ _ _ _ h => h) (by rfl) ?_; apply Exists.intro; refine ⟨fun w1 h1 K hK => ?_, ?_⟩; · (have q0 : ∀ W : Bs.Aft w1, W.val.cell? ⟨g3, 3, none⟩ = some (.slice oa j cap) := fun W => (h1.on W.below).box.cell 3 rfl; go_big_quiet_op; first | exact hK | fail))
                  (refine Bs.wpAnyP_take0 (i := 2) hP0 hP1 hC0 (by decide) (by rfl) rfl (by kernel_rfl) rfl (by kernel_rfl) (by kernel_rfl) (by kernel_rfl) (fun _ _ _ _ h => h) (by rfl) ?_; apply Exists.intro; refine ⟨fun w1 h1 K hK => ?_, ?_⟩; · ( go_big_quiet_op; first | exact hK | fail))
                  (refine Bs.wpAnyP_take0 (i := 3) hP0 hP1 hC0 (by decide) (by rfl) rfl (by kernel_rfl) rfl (by kernel_rfl) (by kernel_rfl) (by kernel_rfl) (fun _ _ _ _ h => h) (by rfl) ?_; apply Exists.intro; refine ⟨fun w1 h1 K hK => ?_, ?_⟩; · (have q0 : ∀ W : Bs.Aft w1, W.val.cell? ⟨w.heap.size, 3, none⟩ = some (.slice (some ⟨b, off, none⟩) h.nr rc) := fun W => (h1.on W.below).a3; go_big_quiet_op; first | exact hK | fail))
                  (refine Bs.wpAnyP_take0 (i := 4) hP0 hP1 hC0 (by decide) (by rfl) rfl (by kernel_rfl) rfl (by kernel_rfl) (by kernel_rfl) (by kernel_rfl) (fun _ _ _ _ h => h) (by rfl) ?_; apply Exists.intro; refine ⟨fun w1 h1 K hK => ?_, ?_⟩; · ( go_big_quiet_op; first | exact hK | fail))
                  (refine Bs.wpAnyP_take0 (i := 5) hP0 hP1 hC0 (by decide) (by rfl) rfl (by kernel_rfl) rfl (by kernel_rfl) (by kernel_rfl) (by kernel_rfl) (fun _ _ _ _ h => h) (by rfl) ?_; apply Exists.intro; refine ⟨fun w1 h1 K hK => ?_, ?_⟩; · ( go_big_quiet_op; first | exact hK | fail))
                  (refine Bs.wpAnyP_take0 (i := 6) hP0 hP1 hC0 (by decide) (by rfl) rfl (by kernel_rfl) rfl (by kernel_rfl) (by kernel_rfl) (by kernel_rfl) (fun _ _ _ _ h => h) (by rfl) ?_; apply Exists.intro; refine ⟨fun w1 h1 K hK => ?_, ?_⟩; · ( go_big_quiet_op; first | exact hK | fail))
                  (refine Bs.wpAnyP_take0 (i := 7) hP0 hP1 hC0 (by decide) (by rfl) rfl (by kernel_rfl) rfl (by kernel_rfl) (by kernel_rfl) (by kernel_rfl) (fun _ _ _ _ h => h) (by rfl) ?_; apply Exists.intro; refine ⟨fun w1 h1 K hK => ?_, ?_⟩; · ( go_big_quiet_op; first | exact hK | fail))
                  (refine Bs.wpAnyP_take0 (i := 8) hP0 hP1 hC0 (by decide) (by rfl) rfl (by kernel_rfl) rfl (by kernel_rfl) (by kernel_rfl) (by kernel_rfl) (fun _ _ _ _ h => h) (by rfl) ?_; apply Exists.intro; refine ⟨fun w1 h1 K hK => ?_, ?_⟩; · ( go_big_quiet_op; first | exact hK | fail))
                  (refine Bs.wpAnyP_take0 (i := 9) hP0 hP1 hC0 (by decide) (by rfl) rfl (by kernel_rfl) rfl (by kernel_rfl) (by kernel_rfl) (by kernel_rfl) (fun _ _ _ _ h => h) (by rfl) ?_; apply Exists.intro; refine ⟨fun w1 h1 K hK => ?_, ?_⟩; · (have q0 : ∀ W : Bs.Aft w1, W.val.cell? ⟨w.heap.size, 3, none⟩ = some (.slice (some ⟨b, off, none⟩) h.nr rc) := fun W => (h1.on W.below).a3; go_big_quiet_op; first | exact hK | fail))
                  (refine Bs.wpAnyP_take0 (i := 10) hP0 hP1 hC0 (by decide) (by rfl) rfl (by kernel_rfl) rfl (by kernel_rfl) (by kernel_rfl) (by kernel_rfl) (fun _ _ _ _ h => h) (by rfl) ?_; apply Exists.intro; refine ⟨fun w1 h1 K hK => ?_, ?_⟩; · ( go_big_quiet_op; first | exact hK | fail))
                  (refine Bs.wpAnyP_take0 (i := 11) hP0 hP1 hC0 (by decide) (by rfl) rfl (by kernel_rfl) rfl (by kernel_rfl) (by kernel_rfl) (by kernel_rfl) (fun _ _ _ _ h => h) (by rfl) ?_; apply Exists.intro; refine ⟨fun w1 h1 K hK => ?_, ?_⟩; · ( go_big_quiet_op; first | exact hK | fail))
                  (refine Bs.wpAnyP_take0 (i := 12) hP0 hP1 hC0 (by decide) (by rfl) rfl (by kernel_rfl) rfl (by kernel_rfl) (by kernel_rfl) (by kernel_rfl) (fun _ _ _ _ h => h) (by rfl) ?_; apply Exists.intro; refine ⟨fun w1 h1 K hK => ?_, ?_⟩; · ( go_big_quiet_op; first | exact hK | fail))
                  (refine Bs.wpAnyP_take0 (i := 13) hP0 hP1 hC0 (by decide) (by rfl) rfl (by kernel_rfl) rfl (by kernel_rfl) (by kernel_rfl) (by kernel_rfl) (fun _ _ _ _ h => h) (by rfl) ?_; apply Exists.intro; refine ⟨fun w1 h1 K hK => ?_, ?_⟩; · (have q0 : ∀ W : Bs.Aft w1, W.val.cell? ⟨b, off + i * 2, none⟩ = some (.int .i64 (h.r i).taps) := fun W => ((h1.on W.below).low.cell (p := ⟨b, off + i * 2, none⟩) hlt0).trans m0;have q1 : ∀ W : Bs.Aft w1, W.val.cell? ⟨b, off + i * 2 + 1, none⟩ = some (.int .i64 (h.r i).most) := fun W => ((h1.on W.below).low.cell (p := ⟨b, off + i * 2 + 1, none⟩) hlt0).trans m1; go_big_quiet_op; first | exact hK | fail))
                  (refine Bs.wpAnyP_one (i := 14) (by kernel_rfl) rfl (by rfl) (fun wc hwc K hK => ?_))
                  go_simp
                  have hbc := hwc.trans ((below_alloc1 wc (.cells #[.int .i64 (h.r i).taps, .int .i64 (h.r i).most] 65)).mono hwc.size)
                  have zN := Bs.Box.new (g := wc.heap.size) #[.int .i64 (h.r i).taps, .int .i64 (h.r i).most] 65 wc rfl
                  have hTc := hP0 _ _ hC0 hbc
                  have hOc := Bs.owns_below (Bs.owns_below HOWN.out ((Below.refl wr.heap.size wr).drew)) hbc
                  have hUc := (HBUT.out.drew).trans_below hbc
                  refine hK _ _ hTc ?_
                  clear hK K hC0 hwc hbc
                  obtain ⟨gN, hG9⟩ : ∃ g, g = wc.heap.size := ⟨_, rfl⟩
                  obtain ⟨Y, hY9⟩ : ∃ X, X = wc.alloc (.cells #[.int .i64 (h.r i).taps, .int .i64 (h.r i).most] 65) := ⟨_, rfl⟩
                  rw [← hG9] at zN ⊢
                  rw [← hY9] at zN hTc hOc hUc ⊢
                  clear hG9 hY9
                  (refine Bs.wpAnyP_one (i := 15) (by kernel_rfl) rfl (by rfl) (fun wd hwd K hK => ?_))
                  have hTd := hTc.on hwd
                  have hOd := Bs.owns_below hOc hwd
                  have hUd := hUc.trans_below hwd
                  have zNd := zN.below hwd
                  refine Bs.wp_append_gen (.tmp 152) (.tmp 165) 23 rfl w13.heap.size 65 iR _ 2 16 Try.underlying23 hiR hzR0 hzR1 hzR2 rfl (by omega) (.slice oa j cap) j (ruleNews j (h.turned wh).r) rfl hOd (some ⟨gN, 0, none⟩) 1 1 [.int .i64 (h.r i).taps, .int .i64 (h.r i).most] rfl (fun e9 => by cases e9) rfl (fun ad9 e9 j9 u9 hu9 => by cases e9; rw [Bs.add_flat, Nat.zero_add]; exact zNd.cell j9 (by rw [List.getElem?_toArray]; exact hu9)) (by simp [Value.oneCell']) (by simp only [maxLen]; omega) (by omega) hUd.size (fun vS wS hownS hgrowS => ?_)
                  have hUS := But.grown hUd hOd hgrowS
                  have hTS : LQ h ta (some ⟨b, off, none⟩) tc rc g3 (.slice oa j cap) w wS := ⟨hUS.below (by omega) hbw13 hbw13.size, (hUS.cell (i := 3) (blk_lt KH13.out) (by omega)).trans a3, Nat.lt_of_lt_of_le (blk_lt KH13.out) hUS.size, Bs.box_grown hTd.box hOd (by decide) hgrowS⟩
                  clear hTc hOc hUc hTd hOd hUd zNd zN hwd hgrowS
                  obtain ⟨oV, cV, rfl, -⟩ := Bs.owns_form hownS
                  go_simp
                  refine hK _ _ hTS ?_
                  clear hK K
                  (refine Bs.wpAnyP_one (i := 16) (by kernel_rfl) rfl (by rfl) (fun wx hwx K hK => ?_))
                  go_simp
                  refine hK _ _ (hP0 _ _ hTS hwx) ?_
                  clear hK K
                  (refine Bs.wpAnyP_one (i := 17) (by kernel_rfl) rfl (by rfl) (fun we hwe K hK => ?_))
                  have hTe := (hTS.on hwx).on hwe
                  have hOe := Bs.owns_below (Bs.owns_below hownS hwx) hwe
                  have hUe := (hUS.trans_below hwx).trans_below hwe
                  refine Bs.wp_store_slice hTe.box rfl rfl rfl (by simp) (by kernel_rfl) (fun wf zf ho => ?_)
                  dsimp only [Act.put]
                  have hOf := Bs.owns_but hOe ho.but (Bs.own_ne hOe hTe.box (by decide))
                  have hUf : But g3 w13 wf := hUe.trans ⟨ho.os, ho.tape, ho.output, Nat.le_of_eq ho.size.symm, fun k9 _ hne => ho.block k9 hne⟩
                  refine hK _ _ trivial ?_
                  clear hK K
                  refine Bs.wpAnyP_done (by kernel_rfl) (fun wy hwy => ?_) _
                  have HUy := Lib.hid (hUf.trans_below hwy)
                  have HOy := Lib.hid (Bs.owns_below hOf hwy)
                  have HZy := Lib.hid (zf.below hwy)
                  clear hUf hOf hOe hUe hTe hTS hUS hownS hwy hwe hwx ho zf hP0 hP1
                  go_wp2_with fail
                  go_roundw
                  case rel => exact ⟨j + 1, .slice oV (j + 1) cV, by omega, by go_num, HUy.out, turn_news HI.out hlt HOy.out, HZy.out.row⟩
                  case measure => simp [intOf]; omega
              · obtain rfl : j = h.nr := by omega
                have HOWN := Lib.hid hown
                have HV9 := Lib.hid hV
                have HBUT := Lib.hid hbut
                clear hown hV hbut
                have g31 : g3 < wr.heap.size := by omega
                have g32 : ¬ g3 = wr.heap.size := by omega
                have w31 : w.heap.size < wr.heap.size := by omega
                have w32 : ¬ w.heap.size = wr.heap.size := by omega
                have hz13 := KH13
                go_upto_if 172 with fail
                go_cut [173] (fun s173 wx => But g3 w13 wx ∧ ∃ oa c, HBlk (h.turned wh) ta oa tc c g3 wx ∧ RulesAt wx oa (h.turned wh).nr (h.turned wh).r ∧ ∀ a, oa = some a → w13.heap.size ≤ a.block)
                case first =>
                  by_cases hn0 : h.nr = 0
                  · have hn1 : ¬ (0 : Int) < (h.nr : Int) := by omega
                    have HN0 := Lib.hid (show (h.turned wh).nr = h.nr by simp [House.turned, hn0])
                    clear hn0
                    go_wp2_with fail
                    go_meet
                    exact ⟨HBUT.out, oa, cap, turned_blk HN0.out HV9.out, by rw [HN0.out]; exact HXX.out, hoa⟩
                  · have hn1 : (0 : Int) < (h.nr : Int) := by omega
                    have HN0 := Lib.hid (show (h.turned wh).nr = h.nr + 1 by simp [House.turned, hn0])
                    obtain ⟨b, off, rfl, hlt0, m0, m1⟩ := HR.out 0 (by omega)
                    simp only [Nat.zero_mul, Nat.add_zero] at m0 m1
                    clear hn0
                    as_aux_lemma =>
                      go_wp2_with fail
                      have hP0 : ∀ A B : World, LQ h ta (some ⟨b, off, none⟩) tc rc g3 (.slice oa h.nr cap) w A → Below A.heap.size A B → LQ h ta (some ⟨b, off, none⟩) tc rc g3 (.slice oa h.nr cap) w B := fun A B h1 h2 => h1.on h2
                      have hP1 : ∀ A B : World, True → Below A.heap.size A B → True := fun _ _ _ _ => trivial
                      have hC0 : LQ h ta (some ⟨b, off, none⟩) tc rc g3 (.slice oa h.nr cap) w wr.drew := LQ.on ⟨hbr, a3r, by omega, ⟨HV9.out⟩⟩ (Below.refl _ _).drew
                      refine Bs.wp_region_phase 9 (LQ h ta (some ⟨b, off, none⟩) tc rc g3 (.slice oa h.nr cap) w) (fun _ => True) (by kernel_rfl) ?_
                      (refine Bs.wpAnyP_take0 (i := 0) hP0 hP1 hC0 (by decide) (by rfl) rfl (by kernel_rfl) rfl (by kernel_rfl) (by kernel_rfl) (by kernel_rfl) (fun _ _ _ _ h => h) (by rfl) ?_; apply Exists.intro; refine ⟨fun w1 h1 K hK => ?_, ?_⟩; · ( go_big_quiet_op; first | exact hK | fail))
                      (refine Bs.wpAnyP_take0 (i := 1) hP0 hP1 hC0 (by decide) (by rfl) rfl (by kernel_rfl) rfl (by kernel_rfl) (by kernel_rfl) (by kernel_rfl) (fun _ _ _ _ h => h) (by rfl) ?_; apply Exists.intro; refine ⟨fun w1 h1 K hK => ?_, ?_⟩; · (have q0 : ∀ W : Bs.Aft w1, W.val.cell? ⟨g3, 3, none⟩ = some (.slice oa h.nr cap) := fun W => (h1.on W.below).box.cell 3 rfl; go_big_quiet_op; first | exact hK | fail))
                      (refine Bs.wpAnyP_take0 (i := 2) hP0 hP1 hC0 (by decide) (by rfl) rfl (by kernel_rfl) rfl (by kernel_rfl) (by kernel_rfl) (by kernel_rfl) (fun _ _ _ _ h => h) (by rfl) ?_; apply Exists.intro; refine ⟨fun w1 h1 K hK => ?_, ?_⟩; · ( go_big_quiet_op; first | exact hK | fail))
                      (refine Bs.wpAnyP_take0 (i := 3) hP0 hP1 hC0 (by decide) (by rfl) rfl (by kernel_rfl) rfl (by kernel_rfl) (by kernel_rfl) (by kernel_rfl) (fun _ _ _ _ h => h) (by rfl) ?_; apply Exists.intro; refine ⟨fun w1 h1 K hK => ?_, ?_⟩; · (have q0 : ∀ W : Bs.Aft w1, W.val.cell? ⟨w.heap.size, 3, none⟩ = some (.slice (some ⟨b, off, none⟩) h.nr rc) := fun W => (h1.on W.below).a3; go_big_quiet_op; first | exact hK | fail))
                      (refine Bs.wpAnyP_take0 (i := 4) hP0 hP1 hC0 (by decide) (by rfl) rfl (by kernel_rfl) rfl (by kernel_rfl) (by kernel_rfl) (by kernel_rfl) (fun _ _ _ _ h => h) (by rfl) ?_; apply Exists.intro; refine ⟨fun w1 h1 K hK => ?_, ?_⟩; · ( go_big_quiet_op; first | exact hK | fail))
                      (refine Bs.wpAnyP_take0 (i := 5) hP0 hP1 hC0 (by decide) (by rfl) rfl (by kernel_rfl) rfl (by kernel_rfl) (by kernel_rfl) (by kernel_rfl) (fun _ _ _ _ h => h) (by rfl) ?_; apply Exists.intro; refine ⟨fun w1 h1 K hK => ?_, ?_⟩; · (have q0 : ∀ W : Bs.Aft w1, W.val.cell? ⟨b, off, none⟩ = some (.int .i64 (h.r 0).taps) := fun W => ((h1.on W.below).low.cell (p := ⟨b, off, none⟩) hlt0).trans m0;have q1 : ∀ W : Bs.Aft w1, W.val.cell? ⟨b, off + 1, none⟩ = some (.int .i64 (h.r 0).most) := fun W => ((h1.on W.below).low.cell (p := ⟨b, off + 1, none⟩) hlt0).trans m1; go_big_quiet_op; first | exact hK | fail))
                      (refine Bs.wpAnyP_one (i := 6) (by kernel_rfl) rfl (by rfl) (fun wc hwc K hK => ?_))
                      go_simp
                      have hbc := hwc.trans ((below_alloc1 wc (.cells #[.int .i64 (h.r 0).taps, .int .i64 (h.r 0).most] 65)).mono hwc.size)
                      have zN := Bs.Box.new (g := wc.heap.size) #[.int .i64 (h.r 0).taps, .int .i64 (h.r 0).most] 65 wc rfl
                      have hTc := hP0 _ _ hC0 hbc
                      have hOc := Bs.owns_below (Bs.owns_below HOWN.out ((Below.refl wr.heap.size wr).drew)) hbc
                      have hUc := (HBUT.out.drew).trans_below hbc
                      refine hK _ _ hTc ?_
                      clear hK K hC0 hwc hbc
                      obtain ⟨gN, hG9⟩ : ∃ g, g = wc.heap.size := ⟨_, rfl⟩
                      obtain ⟨Y, hY9⟩ : ∃ X, X = wc.alloc (.cells #[.int .i64 (h.r 0).taps, .int .i64 (h.r 0).most] 65) := ⟨_, rfl⟩
                      rw [← hG9] at zN ⊢
                      rw [← hY9] at zN hTc hOc hUc ⊢
                      clear hG9 hY9
                      (refine Bs.wpAnyP_one (i := 7) (by kernel_rfl) rfl (by rfl) (fun wd hwd K hK => ?_))
                      have hTd := hTc.on hwd
                      have hOd := Bs.owns_below hOc hwd
                      have hUd := hUc.trans_below hwd
                      have zNd := zN.below hwd
                      refine Bs.wp_append_gen (.tmp 174) (.tmp 179) 23 rfl w13.heap.size 65 iR _ 2 16 Try.underlying23 hiR hzR0 hzR1 hzR2 rfl (by omega) (.slice oa h.nr cap) h.nr (ruleNews h.nr (h.turned wh).r) rfl hOd (some ⟨gN, 0, none⟩) 1 1 [.int .i64 (h.r 0).taps, .int .i64 (h.r 0).most] rfl (fun e9 => by cases e9) rfl (fun ad9 e9 j9 u9 hu9 => by cases e9; rw [Bs.add_flat, Nat.zero_add]; exact zNd.cell j9 (by rw [List.getElem?_toArray]; exact hu9)) (by simp [Value.oneCell']) (by simp only [maxLen]; omega) (by omega) hUd.size (fun vS wS hownS hgrowS => ?_)
                      have hUS := But.grown hUd hOd hgrowS
                      have hTS : LQ h ta (some ⟨b, off, none⟩) tc rc g3 (.slice oa h.nr cap) w wS := ⟨hUS.below (by omega) hbw13 hbw13.size, (hUS.cell (i := 3) (blk_lt KH13.out) (by omega)).trans a3, Nat.lt_of_lt_of_le (blk_lt KH13.out) hUS.size, Bs.box_grown hTd.box hOd (by decide) hgrowS⟩
                      clear hTc hOc hUc hTd hOd hUd zNd zN hwd hgrowS
                      obtain ⟨oV, cV, rfl, -⟩ := Bs.owns_form hownS
                      go_simp
                      refine hK _ _ hTS ?_
                      clear hK K
                      (refine Bs.wpAnyP_one (i := 8) (by kernel_rfl) rfl (by rfl) (fun wx hwx K hK => ?_))
                      go_simp
                      refine hK _ _ (hP0 _ _ hTS hwx) ?_
                      clear hK K
                      (refine Bs.wpAnyP_one (i := 9) (by kernel_rfl) rfl (by rfl) (fun we hwe K hK => ?_))
                      have hTe := (hTS.on hwx).on hwe
                      have hOe := Bs.owns_below (Bs.owns_below hownS hwx) hwe
                      have hUe := (hUS.trans_below hwx).trans_below hwe
                      refine Bs.wp_store_slice hTe.box rfl rfl rfl (by simp) (by kernel_rfl) (fun wf zf ho => ?_)
                      dsimp only [Act.put]
                      have hOf := Bs.owns_but hOe ho.but (Bs.own_ne hOe hTe.box (by decide))
                      have hUf : But g3 w13 wf := hUe.trans ⟨ho.os, ho.tape, ho.output, Nat.le_of_eq ho.size.symm, fun k9 _ hne => ho.block k9 hne⟩
                      refine hK _ _ trivial ?_
                      clear hK K
                      refine Bs.wpAnyP_done (by kernel_rfl) (fun wy hwy => ?_) _
                      have HUy := Lib.hid (hUf.trans_below hwy)
                      have HOy := Lib.hid (Bs.owns_below hOf hwy)
                      have HZy := Lib.hid (zf.below hwy)
                      clear hUf hOf hOe hUe hTe hTS hUS hownS hwy hwe hwx ho zf hP0 hP1
                      go_wp2_with fail
                      go_meet
                      obtain ⟨oS, cS, e9, hXS, hoS⟩ := owns_rules2 (t := (h.turned wh).r) (turn_last HOy.out)
                      cases e9
                      exact ⟨HUy.out, oV, cV, turned_blk HN0.out HZy.out.row, by rw [HN0.out]; exact hXS, hoS⟩
                case rest =>
                  obtain ⟨E14, oV, cV, hVB, hVR, hoV⟩ := hcut
                  have hbw14 : Below w.heap.size w wc := E14.below (by omega) hbw13 hbw13.size
                  have hs14 := E14.size
                  have KM14 := Lib.hid (KM13.out.same (E14.block _ KM13.out.ls (by have := KM13.out.ls; omega)))
                  have KP14 := Lib.hid (KP13.out.same (E14.block _ KP13.out.ls (by omega)))
                  have L0 := Lib.hid (E14.hblk J0.out D.out.2.2.1)
                  have L1 := Lib.hid (E14.hblk J1.out D.out.2.2.2.2.1)
                  have L2 := Lib.hid (E14.hblk J2.out D.out.2.2.2.2.2)
                  have L3 := Lib.hid hVB
                  have TZ := Lib.hid (TY.out.but E14 (by omega))
                  have R14 := Lib.hid (R13.out.but (fun a ha => by have := O1.out a ha; omega) E14)
                  have V14 := Lib.hid hVR
                  clear E14 hVB hVR hoV KM13 KP13 J0 J1 J2 TY R13 HOWN HV9 HBUT HXX hbr hsr a3r v3 hz13 KH13 VX hoa a3
                  obtain ⟨w14, hw14⟩ : ∃ X, X = wc := ⟨_, rfl⟩
                  rw [← hw14] at hbw14 hs14 KM14 KP14 L0 L1 L2 L3 TZ R14 V14 ⊢
                  clear hw14
                  obtain ⟨x0, x1, x2, x3, xls⟩ := L0.out.hb
                  obtain ⟨y0, y1, y2, y3, yls⟩ := L1.out.hb
                  obtain ⟨u0, u1, u2, u3, uls⟩ := L2.out.hb
                  go_upto_region 22 with fail
                  have H3 : ∀ z9, z9 < 3 → ThreeAt h w14.heap.size z9 (w14.alloc (.cells #[.int .i64 (h.rich by9).head, .int .i64 (h.rich by9).drip, .slice ta (h.rich by9).nt tc, .slice ra (h.rich by9).nr rc, .int .i64 (h.strict q).head, .int .i64 (h.strict q).drip, .slice ta (h.strict q).nt tc, .slice oS (h.strict q).nr cS, .int .i64 h.head, .int .i64 h.drip, .slice (some ⟨gT, 0, none⟩) h.nt cT, .slice ra h.nr rc] 25)) := fun z9 hz9 => by
                    have hk3 : z9 = 0 ∨ z9 = 1 ∨ z9 = 2 := by omega
                    have hbA := below_alloc1 w14 (.cells #[.int .i64 (h.rich by9).head, .int .i64 (h.rich by9).drip, .slice ta (h.rich by9).nt tc, .slice ra (h.rich by9).nr rc, .int .i64 (h.strict q).head, .int .i64 (h.strict q).drip, .slice ta (h.strict q).nt tc, .slice oS (h.strict q).nr cS, .int .i64 h.head, .int .i64 h.drip, .slice (some ⟨gT, 0, none⟩) h.nt cT, .slice ra h.nr rc] 25)
                    rcases hk3 with rfl | rfl | rfl
                    · exact ⟨h.rich by9, ta, ra, tc, rc, by simp, by simp [go_sem], by simp [go_sem], by simp [go_sem], by simp [go_sem], (HT.out.mono hbw14).mono hbA, (HR.out.mono hbw14).mono hbA, easier_rich HV.out by9, (by show h.nt ≤ 1000000; have := HG16.out; omega), (by show h.nr ≤ 1000000; have := HG16.out; omega)⟩
                    · exact ⟨h.strict q, ta, oS, tc, cS, by simp, by simp [go_sem], by simp [go_sem], by simp [go_sem], by simp [go_sem], (HT.out.mono hbw14).mono hbA, R14.out.mono hbA, easier_strict h q, (by show h.nt ≤ 1000000; have := HG16.out; omega), by show h.nr + 1 ≤ 1000000; have := HG16.out; omega⟩
                    · exact ⟨h.less k by9, some ⟨gT, 0, none⟩, ra, cT, rc, by simp, by simp [go_sem, House.less], by simp [go_sem, House.less], by simp [go_sem, House.less], by simp [go_sem, House.less], TZ.out.at_.mono hbA, (HR.out.mono hbw14).mono hbA, easier_less HV.out k by9 hkn, (by show h.nt ≤ 1000000; have := HG16.out; omega), (by show h.nr ≤ 1000000; have := HG16.out; omega)⟩
                  have hbA := below_alloc1 w14 (.cells #[.int .i64 (h.rich by9).head, .int .i64 (h.rich by9).drip, .slice ta (h.rich by9).nt tc, .slice ra (h.rich by9).nr rc, .int .i64 (h.strict q).head, .int .i64 (h.strict q).drip, .slice ta (h.strict q).nt tc, .slice oS (h.strict q).nr cS, .int .i64 h.head, .int .i64 h.drip, .slice (some ⟨gT, 0, none⟩) h.nt cT, .slice ra h.nr rc] 25)
                  have HX := Lib.hid H3
                  have hbw15 := hbw14.trans (hbA.mono hbw14.size)
                  have KM15 := Lib.hid (KM14.out.below hbA)
                  have KP15 := Lib.hid (KP14.out.below hbA)
                  have M3 := Lib.hid (L3.out.below hbA)
                  have V15 := Lib.hid (V14.out.mono hbA)
                  clear H3 hbA KM14 KP14 L0 L1 L2 L3 TZ R14 V14 x0 x1 x2 x3 xls y0 y1 y2 y3 yls u0 u1 u2 u3 uls hbw14
                  obtain ⟨gl, hgl⟩ : ∃ x, x = w14.heap.size := ⟨_, rfl⟩
                  obtain ⟨w15, hw15⟩ : ∃ X, X = w14.alloc (.cells #[.int .i64 (h.rich by9).head, .int .i64 (h.rich by9).drip, .slice ta (h.rich by9).nt tc, .slice ra (h.rich by9).nr rc, .int .i64 (h.strict q).head, .int .i64 (h.strict q).drip, .slice ta (h.strict q).nt tc, .slice oS (h.strict q).nr cS, .int .i64 h.head, .int .i64 h.drip, .slice (some ⟨gT, 0, none⟩) h.nt cT, .slice ra h.nr rc] 25) := ⟨_, rfl⟩
                  rw [← hw15] at HX hbw15 KM15 KP15 M3 V15 ⊢
                  rw [← hgl] at HX ⊢
                  clear hw15 hgl
                  go_wp2_with fail
                  go_loopw [187] (fun v187 wr => ∃ j, j ≤ 3 ∧ v187 = .int .i64 (j : Nat) ∧ Below w15.heap.size w15 wr) (fun i _ => 3 - (intOf i).toNat)
                  case atStart => exact ⟨0, Nat.zero_le _, rfl, Below.refl _ _⟩
                  case round =>
                    obtain ⟨j, hj, rfl, hb⟩ := hrel
                    have hsz := hb.size
                    have hbr := hbw15.trans (hb.mono hbw15.size)
                    by_cases hlt : j < 3
                    · skip
                      as_aux_lemma =>
                        obtain ⟨x, ta', ra', tc', rc', hgl, q0, q1, q2, q3, hXT, hXR, hE, n1, n2⟩ := (HX.out j hlt).mono hb
                        have XT := Lib.hid hXT
                        have XR := Lib.hid hXR
                        have XE := Lib.hid hE
                        have KMr := Lib.hid (KM15.out.below hb)
                        have hlt9 : (j : Int) < 3 := by omega
                        clear hXT hXR hE
                        go_wp2_with fail
                        refine (refHouse_any x ta' ra' tc' rc' _ n1 n2 (XT.out.mono (below_alloc1 _ _)) (XR.out.mono (below_alloc1 _ _))).mono ?_
                        rintro e u2 ⟨rfl, hbu⟩
                        have KB := Lib.hid ((HBlk.new x ta' ra' tc' rc' wr).below hbu)
                        have hbu2 : Below wr.heap.size wr u2 := (below_alloc1 _ _).trans (hbu.mono (by simp))
                        have KMu := Lib.hid (KMr.out.below hbu2)
                        clear hbu q0 q1 q2 q3 hgl KMr
                        by_cases hxv : x.valid = true
                        · rw [hxv]
                          have HXV := Lib.hid hxv
                          clear hxv
                          obtain ⟨z0, z1, z2, z3, zls⟩ := KB.out.hb
                          obtain ⟨m0, m1, m2, m3, mls⟩ := KMu.out
                          go_wp2_with fail
                          refine (Starved_any x m ta' ra' tc' rc' _ n1 n2 (XT.out.mono hbu2) (XR.out.mono hbu2)).mono ?_
                          rintro e u3 ⟨rfl, hbu⟩
                          have hbu3 := hbu2.trans (hbu.mono hbu2.size)
                          have KB3 := Lib.hid (KB.out.below hbu)
                          have KM3' := Lib.hid (KMu.out.below hbu)
                          obtain ⟨⟨s9, pr8, g9⟩, hS9⟩ : ∃ y, y = x.starvedR m := ⟨_, rfl⟩
                          rw [← hS9]
                          have H4 := Lib.hid (show e9 = 4 → g9 = 4 from fun h4 => by
                            have := XE.out.four HXV.out (m := m) (by rw [← HS.out]; exact h4)
                            rw [← hS9] at this
                            exact this)
                          clear z0 z1 z2 z3 zls m0 m1 m2 m3 mls hbu KB KMu hS9
                          obtain ⟨z0, z1, z2, z3, zls⟩ := KB3.out.hb
                          obtain ⟨m0, m1, m2, m3, mls⟩ := KM3'.out
                          dsimp only
                          go_wp2_with fail
                          refine (Least_any x m.loss ta' ra' tc' rc' _ n1 n2 (XT.out.mono hbu3) (XR.out.mono hbu3)).mono ?_
                          rintro e u4 ⟨r9, c9, rfl, hbu, hL9⟩
                          have hbu4 := hbu3.trans (hbu.mono hbu3.size)
                          have H5 := Lib.hid (show f9 = 0 → c9 = 0 ∧ r9 ≤ n9 from fun hf => XE.out.least HXV.out HV.out HL.out (show LeastIs x m.loss r9 c9 from hL9) hf)
                          clear z0 z1 z2 z3 zls m0 m1 m2 m3 mls hbu KB3 KM3' hL9
                          by_cases h4 : e9 = 4
                          · have h5 := H4.out h4
                            have h6 : ((e9 : Int) == 4) = true := by simp; omega
                            have h7 : ((g9 : Int) != 4) = false := by simp; omega
                            have h6' : (e9 == 4) = true := by simp; omega
                            have h7' : (g9 != 4) = false := by simp; omega
                            clear h4 h5
                            by_cases hf : f9 = 0
                            · obtain ⟨h8, h9⟩ := H5.out hf
                              have k1 : ((f9 : Int) == 0) = true := by simp; omega
                              have k2 : ((c9 : Int) != 0) = false := by simp; omega
                              have k3 : decide ((n9 : Int) < (r9 : Int)) = false := by simp; omega
                              have k4 : decide (n9 < r9) = false := by simp; omega
                              have k1' : (f9 == 0) = true := by simp; omega
                              have k2' : (c9 != 0) = false := by simp; omega
                              clear hf h8 h9
                              go_wp2_with fail
                              go_roundw
                              case rel => exact ⟨j + 1, by omega, by go_num, by first | exact hb.trans (hbu4.mono hsz) | exact (hb.trans (hbu4.mono hsz)).drew⟩
                              case measure => simp [intOf]; omega
                            · have k1 : ((f9 : Int) == 0) = false := by simp; omega
                              have k1' : (f9 == 0) = false := by simp; omega
                              clear hf
                              go_wp2_with fail
                              go_roundw
                              case rel => exact ⟨j + 1, by omega, by go_num, by first | exact hb.trans (hbu4.mono hsz) | exact (hb.trans (hbu4.mono hsz)).drew⟩
                              case measure => simp [intOf]; omega
                          · have h6 : ((e9 : Int) == 4) = false := by simp; omega
                            have h6' : (e9 == 4) = false := by simp; omega
                            clear h4
                            by_cases hf : f9 = 0
                            · obtain ⟨h8, h9⟩ := H5.out hf
                              have k1 : ((f9 : Int) == 0) = true := by simp; omega
                              have k2 : ((c9 : Int) != 0) = false := by simp; omega
                              have k3 : decide ((n9 : Int) < (r9 : Int)) = false := by simp; omega
                              have k4 : decide (n9 < r9) = false := by simp; omega
                              have k1' : (f9 == 0) = true := by simp; omega
                              have k2' : (c9 != 0) = false := by simp; omega
                              clear hf h8 h9
                              go_wp2_with fail
                              go_roundw
                              case rel => exact ⟨j + 1, by omega, by go_num, by first | exact hb.trans (hbu4.mono hsz) | exact (hb.trans (hbu4.mono hsz)).drew⟩
                              case measure => simp [intOf]; omega
                            · have k1 : ((f9 : Int) == 0) = false := by simp; omega
                              have k1' : (f9 == 0) = false := by simp; omega
                              clear hf
                              go_wp2_with fail
                              go_roundw
                              case rel => exact ⟨j + 1, by omega, by go_num, by first | exact hb.trans (hbu4.mono hsz) | exact (hb.trans (hbu4.mono hsz)).drew⟩
                              case measure => simp [intOf]; omega
                        · replace hxv : x.valid = false := by simpa using hxv
                          rw [hxv]
                          have hbu4 := hbu2
                          clear hxv
                          go_wp2_with fail
                          go_roundw
                          case rel => exact ⟨j + 1, by omega, by go_num, by first | exact hb.trans (hbu4.mono hsz) | exact (hb.trans (hbu4.mono hsz)).drew⟩
                          case measure => simp [intOf]; omega
                    · obtain rfl : j = 3 := by omega
                      have KM16 := Lib.hid (KM15.out.below hb)
                      have KP16 := Lib.hid (KP15.out.below hb)
                      have N3 := Lib.hid (M3.out.below hb)
                      have V16 := Lib.hid (V15.out.mono hb)
                      obtain ⟨w16, hw16⟩ : ∃ X, X = wr := ⟨_, rfl⟩
                      rw [← hw16] at KM16 KP16 N3 V16 hbr ⊢
                      clear hw16 hb hsz hbw15 KM15 KP15 M3 V15 HX
                      as_aux_lemma =>
                        obtain ⟨z0, z1, z2, z3, zls⟩ := N3.out.hb
                        obtain ⟨m0, m1, m2, m3, mls⟩ := KM16.out
                        have t1 : (h.turned wh).nt ≤ 1000000 := (by show h.nt ≤ 1000000; have := HG16.out; omega)
                        have t2 : (h.turned wh).nr ≤ 1000000 := by show (if h.nr = 0 then 0 else h.nr + 1) ≤ 1000000; split <;> omega
                        have TT9 := Lib.hid (show ∀ W, Below w.heap.size w W → TapsAt W ta (h.turned wh).nt (h.turned wh).t from fun W hW => HT.out.mono hW)
                        go_wp2_with fail
                        refine (Starved_any (h.turned wh) m ta oV tc cV _ t1 t2 (TT9.out _ hbr) V16.out).mono ?_
                        rintro e u2 ⟨rfl, hbu⟩
                        rw [turned_starvedR HV.out G3.out wh m, ← HS.out]
                        have hbr2 := hbr.trans (hbu.mono hbr.size)
                        have hbv2 := hbu
                        have N4 := Lib.hid (N3.out.below hbu)
                        have KM17 := Lib.hid (KM16.out.below hbu)
                        clear z0 z1 z2 z3 zls m0 m1 m2 m3 mls hbu
                        obtain ⟨z0, z1, z2, z3, zls⟩ := N4.out.hb
                        obtain ⟨m0, m1, m2, m3, mls⟩ := KM17.out
                        dsimp only
                        go_wp2_with fail
                        refine (Least_any (h.turned wh) m.loss ta oV tc cV _ t1 t2 (TT9.out _ hbr2) (V16.out.mono hbv2)).mono ?_
                        rintro e u3 ⟨r9, c9, rfl, hbu, hL9⟩
                        obtain ⟨hn9, hf9⟩ := turned_least HV.out G3.out HL.out (show LeastIs (h.turned wh) m.loss r9 c9 from hL9)
                        clear hL9
                        subst hn9 hf9
                        have hbr3 := hbr2.trans (hbu.mono hbr2.size)
                        have hbv3 := hbv2.trans (hbu.mono hbv2.size)
                        have N5 := Lib.hid (N4.out.below hbu)
                        clear z0 z1 z2 z3 zls m0 m1 m2 m3 mls hbu
                        obtain ⟨z0, z1, z2, z3, zls⟩ := N5.out.hb
                        go_wp2_with fail
                        refine (peak_all (h.turned wh) ta oV tc cV _ t1 t2 (TT9.out _ hbr3) (V16.out.mono hbv3)).mono ?_
                        rintro e u4 ⟨rfl, hbu⟩
                        have hpe := peakR_valid HV.out HP.out
                        rw [turned_peakR HV.out G3.out wh, ← HP.out]
                        subst hpe
                        have hbr4 := hbr3.trans (hbu.mono hbr3.size)
                        have hbv4 := hbv3.trans (hbu.mono hbv3.size)
                        have KP17 := Lib.hid (KP16.out.below hbv4)
                        clear z0 z1 z2 z3 zls hbu
                        obtain ⟨y0, y1, yls⟩ := KP17.out
                        dsimp only
                        go_wp2_with fail
                        refine (HA.out _).mono ?_
                        rintro e wz ⟨rfl, hbz⟩
                        go_wp2
                        go_ret
                        exact ⟨rfl, (hbr4.alloc hbr4.size _).trans (hbz.mono (by have := hbr4.size; simp; omega))⟩
      · replace hv : h.valid = false := by simpa using hv
        rw [hv]
        go_wp2_with fail
        refine (HA.out _).mono ?_
        rintro e wz ⟨rfl, hbz⟩
        go_wp2
        go_ret
        exact ⟨rfl, hbw2.trans (hbz.mono hbw2.size)⟩
end Go.Proofs.Ytckagcbjcpfjpaa
