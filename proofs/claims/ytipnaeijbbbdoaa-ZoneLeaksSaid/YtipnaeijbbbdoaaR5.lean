/- Zone, the document's side: Leaks, First. -/
import Derived.Test.YtipnaeijbbbdoaaR4
import Derived.Test.YtipnaeijbbbdoaaF9
namespace Go.Proofs.Ytipnaeijbbbdoaa
open Go.RowKit
set_option maxRecDepth 100000 in
set_option maxHeartbeats 8000000 in
theorem dleaks_any (oa ob : Option Addr) (n ca m cb : Nat) (z : Nat → Zon) (u : Nat → Nig) (w : World) (hn : n ≤ 1000000) (hm : m ≤ 1000000) (hA : ZonsAt w oa n z) (hU : NigsAt w ob m u) :
    Calls Try.prog 19 #[.slice oa n ca, .slice ob m cb] w (LeakP n m z u w) := by
  have HU := Lib.hid hU
  have HLI := Lib.hid (zones_any oa n ca z w hn hA)
  clear hA hU
  go_enter Try.func19, Try.ntmps19
  go_wp2_with fail
  refine HLI.out.mono ?_
  rintro e w1 ⟨rfl, hb1⟩
  have HB2 := Lib.hid hb1
  clear hb1 HLI
  cases hlb : listB n z
  · have HLB := Lib.hid hlb
    clear hlb
    go_wp2_with fail
    refine bodyPost_ret (v := .tuple #[.slice none 0 0, .int .i64 1]) (by simp [results, Try.results19, go_sem]) rfl ⟨HB2.out, .inl ⟨HLB.out, rfl⟩⟩
  · have HLB := Lib.hid hlb
    clear hlb
    by_cases hmn : m = n
    · subst hmn
      obtain ⟨iR, hiR, hzR0, hzR1, hzR2⟩ := info_parts (P := Try.prog) (e := 41) (z := .agg #[.int .i64 0, .int .i64 0]) (size := 2) (bytes := 16) (by kernel_rfl)
      have HIR := Lib.hid hiR
      have HZR := Lib.hid (And.intro hzR0 (And.intro hzR1 hzR2))
      clear hiR hzR0 hzR1 hzR2
      obtain ⟨n, rfl⟩ : ∃ n, n = m := ⟨_, rfl⟩
      have hnn : ((n : Int) != (n : Int)) = false := by simp
      go_wp2_with fail
      clear hnn
      go_loopw [6, 7] (fun v6 v7 wr => ∃ m : Nat, m ≤ n ∧ v7 = .int .i64 m ∧ Hid (∀ i, i < m → nigB (u i) = false) ∧ Hid (wr.ownsRow w.heap.size 41 2 v6 m (spanNews m (fun j => leakS (u j)))) ∧ Hid (Below w.heap.size w wr)) (fun _ v7 _ => n - (intOf v7).toNat)
      case atStart => exact ⟨0, Nat.zero_le _, rfl, Lib.hid fun i hi => by omega, Lib.hid owns_none, HB2⟩
      case round =>
        obtain ⟨m, hm, rfl, HOK, HOW, HL⟩ := hrel
        by_cases hlt : m < n
        · obtain ⟨b, off, hoa, hl, c0, c1, c2, c3, c4, c5⟩ := (HU.out.mono HL.out) m hlt
          subst hoa
          have HSN := Lib.hid (show spanNews m (fun j => leakS (u j)) ++ [.int .i64 (leakS (u m)).lo, .int .i64 (leakS (u m)).hi] = spanNews (m + 1) (fun j => leakS (u j)) from (pair_news_succ _ _ _).symm)
          have HOS := Lib.hid (show leakS (u m) = ⟨max 0 ((u m).f.lo - (u m).u.hi) * (u m).h.lo, max 0 ((u m).f.hi - (u m).u.lo) * (u m).h.hi⟩ from rfl)
          have HNN := Lib.hid (nigB_no (x := u m))
          have HNY := Lib.hid (nigB_yes (x := u m))
          have HBAD := Lib.hid (show nigB (u m) = true → (anyB n fun i => nigB (u i)) = true from fun h => anyB_iff.2 ⟨m, hlt, h⟩)
          have HGO := Lib.hid (show nigB (u m) = false → ∀ i, i < m + 1 → nigB (u i) = false from fun h i hi => by
            by_cases h9 : i = m
            · subst h9; exact h
            · exact HOK.out i (by omega))
          have HSPC := Lib.hid (fun h => nigB_spec (x := u m) h)
          have hown := HOW.out
          obtain ⟨oL, cL, rfl, -⟩ := owns_form hown
          obtain ⟨xs, hxs⟩ : ∃ l, l = spanNews m (fun j => leakS (u j)) := ⟨_, rfl⟩
          obtain ⟨ys, hys⟩ : ∃ l, l = spanNews (m + 1) (fun j => leakS (u j)) := ⟨_, rfl⟩
          rw [← hxs] at hown HOW HSN
          rw [← hys] at HSN
          have HYS := Lib.hid hys
          clear hxs hys
          obtain ⟨sx, hsx⟩ : ∃ s, s = leakS (u m) := ⟨_, rfl⟩
          rw [← hsx] at HSN HOS
          clear hsx
          obtain ⟨nb, hnb⟩ : ∃ v, v = nigB (u m) := ⟨_, rfl⟩
          rw [← hnb] at HNN HNY HBAD HGO HSPC
          clear hnb
          obtain ⟨Z, hZ⟩ : ∃ Z, Z = u m := ⟨_, rfl⟩
          rw [← hZ] at c0 c1 c2 c3 c4 c5 HNN HNY HOS HSPC
          clear hZ
          obtain ⟨⟨flo, fhi⟩, ⟨ulo, uhi⟩, ⟨hlo, hhi⟩⟩ := Z
          simp only at c0 c1 c2 c3 c4 c5 HNN HNY HOS HSPC
          have hk0 : (0 : Int) ≤ (m : Int) := by omega
          have hk1 : (m : Int) < (n : Int) := by omega
          have HOW9 := Lib.hid hown
          clear hown HOW hlt
          have S1 := Lib.hid (fun (W : World) => dspanB_any ⟨flo, fhi⟩ 0 1073741824 W)
          have S2 := Lib.hid (fun (W : World) => dspanB_any ⟨ulo, uhi⟩ 0 1073741824 W)
          have S3 := Lib.hid (fun (W : World) => dspanB_any ⟨hlo, hhi⟩ 0 1000 W)
          obtain ⟨q1, hq1⟩ : ∃ q, q = spanB ⟨flo, fhi⟩ 0 1073741824 := ⟨_, rfl⟩
          obtain ⟨q2, hq2⟩ : ∃ q, q = spanB ⟨ulo, uhi⟩ 0 1073741824 := ⟨_, rfl⟩
          obtain ⟨q3, hq3⟩ : ∃ q, q = spanB ⟨hlo, hhi⟩ 0 1000 := ⟨_, rfl⟩
          rw [← hq1] at S1 HNN HNY
          rw [← hq2] at S2 HNN HNY
          rw [← hq3] at S3 HNN HNY
          clear hq1 hq2 hq3
          go_upto_region 10 with fail
          have hbl := below_alloc1 wr (.cells #[.int .i64 flo, .int .i64 fhi, .int .i64 ulo, .int .i64 uhi, .int .i64 hlo, .int .i64 hhi] 54)
          have hbx := Box.new (g := wr.heap.size) #[.int .i64 flo, .int .i64 fhi, .int .i64 ulo, .int .i64 uhi, .int .i64 hlo, .int .i64 hhi] 54 wr rfl
          obtain ⟨gz, hG⟩ : ∃ G, G = wr.heap.size := ⟨_, rfl⟩
          obtain ⟨w2, hW⟩ : ∃ X, X = wr.alloc (.cells #[.int .i64 flo, .int .i64 fhi, .int .i64 ulo, .int .i64 uhi, .int .i64 hlo, .int .i64 hhi] 54) := ⟨_, rfl⟩
          rw [← hW] at hbl hbx ⊢
          rw [← hG] at hbx ⊢
          have HOW2 := Lib.hid (owns_below HOW9.out hbl)
          replace HL := Lib.hid (HL.out.trans (hbl.mono HL.out.size))
          have HB1 := Lib.hid hbx
          clear hbl hbx hW hG HOW9 c0 c1 c2 c3 c4 c5 hl wr
          have d0 := HB1.out.cell 0 (v := .int .i64 flo) rfl
          have d1 := HB1.out.cell 1 (v := .int .i64 fhi) rfl
          have d2 := HB1.out.cell 2 (v := .int .i64 ulo) rfl
          have d3 := HB1.out.cell 3 (v := .int .i64 uhi) rfl
          have d4 := HB1.out.cell 4 (v := .int .i64 hlo) rfl
          have d5 := HB1.out.cell 5 (v := .int .i64 hhi) rfl
          have d9 := HB1.out.lt
          go_wp2_with fail
          refine (S1.out _).mono ?_
          rintro e w3 ⟨rfl, hb⟩
          replace HB1 := Lib.hid (HB1.out.below hb)
          replace HOW2 := Lib.hid (owns_below HOW2.out hb)
          replace HL := Lib.hid (HL.out.trans (hb.mono HL.out.size))
          clear hb d0 d1 d2 d3 d4 d5 d9
          clear w2
          obtain ⟨w2, rfl⟩ : ∃ X, X = w3 := ⟨_, rfl⟩
          have d0 := HB1.out.cell 0 (v := .int .i64 flo) rfl
          have d1 := HB1.out.cell 1 (v := .int .i64 fhi) rfl
          have d2 := HB1.out.cell 2 (v := .int .i64 ulo) rfl
          have d3 := HB1.out.cell 3 (v := .int .i64 uhi) rfl
          have d4 := HB1.out.cell 4 (v := .int .i64 hlo) rfl
          have d5 := HB1.out.cell 5 (v := .int .i64 hhi) rfl
          have d9 := HB1.out.lt
          cases q1
          case false =>
            have HX := Lib.hid (HBAD.out (HNN.out (.inl rfl)))
            clear d0 d1 d2 d3 d4 d5 d9
            go_wp2_with fail
            refine bodyPost_ret (v := .tuple #[.slice none 0 0, .int .i64 2]) (by simp [results, Try.results19, go_sem]) rfl ⟨HL.out, .inr (.inr (.inl ⟨HLB.out, rfl, HX.out, rfl⟩))⟩
          go_wp2_with fail
          refine (S2.out _).mono ?_
          rintro e w3 ⟨rfl, hb⟩
          replace HB1 := Lib.hid (HB1.out.below hb)
          replace HOW2 := Lib.hid (owns_below HOW2.out hb)
          replace HL := Lib.hid (HL.out.trans (hb.mono HL.out.size))
          clear hb d0 d1 d2 d3 d4 d5 d9
          clear w2
          obtain ⟨w2, rfl⟩ : ∃ X, X = w3 := ⟨_, rfl⟩
          have d0 := HB1.out.cell 0 (v := .int .i64 flo) rfl
          have d1 := HB1.out.cell 1 (v := .int .i64 fhi) rfl
          have d2 := HB1.out.cell 2 (v := .int .i64 ulo) rfl
          have d3 := HB1.out.cell 3 (v := .int .i64 uhi) rfl
          have d4 := HB1.out.cell 4 (v := .int .i64 hlo) rfl
          have d5 := HB1.out.cell 5 (v := .int .i64 hhi) rfl
          have d9 := HB1.out.lt
          cases q2
          case false =>
            have HX := Lib.hid (HBAD.out (HNN.out (.inr (.inl rfl))))
            clear d0 d1 d2 d3 d4 d5 d9
            go_wp2_with fail
            refine bodyPost_ret (v := .tuple #[.slice none 0 0, .int .i64 2]) (by simp [results, Try.results19, go_sem]) rfl ⟨HL.out, .inr (.inr (.inl ⟨HLB.out, rfl, HX.out, rfl⟩))⟩
          go_wp2_with fail
          refine (S3.out _).mono ?_
          rintro e w3 ⟨rfl, hb⟩
          replace HB1 := Lib.hid (HB1.out.below hb)
          replace HOW2 := Lib.hid (owns_below HOW2.out hb)
          replace HL := Lib.hid (HL.out.trans (hb.mono HL.out.size))
          clear hb d0 d1 d2 d3 d4 d5 d9
          clear w2
          obtain ⟨w2, rfl⟩ : ∃ X, X = w3 := ⟨_, rfl⟩
          have d0 := HB1.out.cell 0 (v := .int .i64 flo) rfl
          have d1 := HB1.out.cell 1 (v := .int .i64 fhi) rfl
          have d2 := HB1.out.cell 2 (v := .int .i64 ulo) rfl
          have d3 := HB1.out.cell 3 (v := .int .i64 uhi) rfl
          have d4 := HB1.out.cell 4 (v := .int .i64 hlo) rfl
          have d5 := HB1.out.cell 5 (v := .int .i64 hhi) rfl
          have d9 := HB1.out.lt
          cases q3
          case false =>
            have HX := Lib.hid (HBAD.out (HNN.out (.inr (.inr rfl))))
            clear d0 d1 d2 d3 d4 d5 d9
            go_wp2_with fail
            refine bodyPost_ret (v := .tuple #[.slice none 0 0, .int .i64 2]) (by simp [results, Try.results19, go_sem]) rfl ⟨HL.out, .inr (.inr (.inl ⟨HLB.out, rfl, HX.out, rfl⟩))⟩
          have hnf := HNY.out (by simp) (by simp) (by simp)
          have HO2K := Lib.hid (HGO.out hnf)
          obtain ⟨⟨f1, f2, f3⟩, ⟨u1, u2, u3⟩, v1, v2, v3⟩ := HSPC.out hnf
          clear hnf
          go_upto_region 12 with fail
          have hwsz := HL.out.size
          have m1 := fun (h : uhi < flo) => mul_bd (a := flo - uhi) (b := hlo) (A := 1073741824) (B := 1000) (by omega) (by omega) (by omega) (by omega)
          have m2 := fun (h : ulo < fhi) => mul_bd (a := fhi - ulo) (b := hhi) (A := 1073741824) (B := 1000) (by omega) (by omega) (by omega) (by omega)
          clear HNN HNY HBAD HGO HSPC S1 S2 S3
          by_cases h1 : uhi < flo
          · replace m1 := m1 h1
            by_cases h2 : ulo < fhi
            · replace m2 := m2 h2
              have HS9 := Lib.hid (show sx = ⟨(flo - uhi) * hlo, (fhi - ulo) * hhi⟩ by rw [HOS.out, mx_pos h1, mx_pos h2])
              clear HOS
              have HSN9 := Lib.hid (show xs ++ [.int .i64 ((flo - uhi) * hlo), .int .i64 ((fhi - ulo) * hhi)] = ys from by rw [← HSN.out, HS9.out])
              go_wp2_with (at_builtin; refine wpList_append_gen rfl (.tmp 43) (.tmp 69) _ rfl w.heap.size 41 iR _ 2 16 Try.underlying24 HIR.out HZR.out.1 HZR.out.2.1 HZR.out.2.2 rfl (by omega) (.slice oL m cL) m xs rfl (some ⟨w2.heap.size, 0, none⟩) 1 1 [.int .i64 ((flo - uhi) * hlo), .int .i64 ((fhi - ulo) * hhi)] rfl (HOW2.out.alloc _) (fun e9 => by cases e9) rfl (fun ad9 e9 j9 u9 hu9 => by cases e9; exact news_blk2 (e := 41) (heap_new rfl) hu9) (by simp [Value.oneCell']) (by simp only [maxLen]; omega) (by omega) (by simp; omega) ?_; intro vS wS hownS hgrowS)
              have hbS : Below w.heap.size w wS := (HL.out.alloc HL.out.size _).trans (below_row HOW2.out hgrowS HL.out.size)
              rw [HSN9.out, HYS.out] at hownS
              have HO2 := Lib.hid hownS
              have HL2 := Lib.hid hbS
              clear hownS hbS hgrowS d0 d1 d2 d3 d4 d5 d9
              go_wp2_with fail
              go_roundw
              case rel => exact ⟨m + 1, by omega, by go_num, HO2K, HO2, HL2⟩
              case measure => simp [intOf]; omega
            · exact absurd h1 (by omega)
          · replace h1 : flo ≤ uhi := by omega
            clear m1
            by_cases h2 : ulo < fhi
            · replace m2 := m2 h2
              have HS9 := Lib.hid (show sx = ⟨0, (fhi - ulo) * hhi⟩ by rw [HOS.out, mx_neg (by omega), mx_pos h2, Int.zero_mul])
              clear HOS
              have HSN9 := Lib.hid (show xs ++ [.int .i64 (0), .int .i64 ((fhi - ulo) * hhi)] = ys from by rw [← HSN.out, HS9.out])
              go_wp2_with (at_builtin; refine wpList_append_gen rfl (.tmp 43) (.tmp 69) _ rfl w.heap.size 41 iR _ 2 16 Try.underlying24 HIR.out HZR.out.1 HZR.out.2.1 HZR.out.2.2 rfl (by omega) (.slice oL m cL) m xs rfl (some ⟨w2.heap.size, 0, none⟩) 1 1 [.int .i64 (0), .int .i64 ((fhi - ulo) * hhi)] rfl (HOW2.out.alloc _) (fun e9 => by cases e9) rfl (fun ad9 e9 j9 u9 hu9 => by cases e9; exact news_blk2 (e := 41) (heap_new rfl) hu9) (by simp [Value.oneCell']) (by simp only [maxLen]; omega) (by omega) (by simp; omega) ?_; intro vS wS hownS hgrowS)
              have hbS : Below w.heap.size w wS := (HL.out.alloc HL.out.size _).trans (below_row HOW2.out hgrowS HL.out.size)
              rw [HSN9.out, HYS.out] at hownS
              have HO2 := Lib.hid hownS
              have HL2 := Lib.hid hbS
              clear hownS hbS hgrowS d0 d1 d2 d3 d4 d5 d9
              go_wp2_with fail
              go_roundw
              case rel => exact ⟨m + 1, by omega, by go_num, HO2K, HO2, HL2⟩
              case measure => simp [intOf]; omega
            · have HS9 := Lib.hid (show sx = ⟨0, 0⟩ by rw [HOS.out, mx_neg (by omega), mx_neg h2, Int.zero_mul, Int.zero_mul])
              clear HOS
              replace h2 : fhi ≤ ulo := by omega
              clear m2
              have HSN9 := Lib.hid (show xs ++ [.int .i64 (0), .int .i64 (0)] = ys from by rw [← HSN.out, HS9.out])
              go_wp2_with (at_builtin; refine wpList_append_gen rfl (.tmp 43) (.tmp 69) _ rfl w.heap.size 41 iR _ 2 16 Try.underlying24 HIR.out HZR.out.1 HZR.out.2.1 HZR.out.2.2 rfl (by omega) (.slice oL m cL) m xs rfl (some ⟨w2.heap.size, 0, none⟩) 1 1 [.int .i64 (0), .int .i64 (0)] rfl (HOW2.out.alloc _) (fun e9 => by cases e9) rfl (fun ad9 e9 j9 u9 hu9 => by cases e9; exact news_blk2 (e := 41) (heap_new rfl) hu9) (by simp [Value.oneCell']) (by simp only [maxLen]; omega) (by omega) (by simp; omega) ?_; intro vS wS hownS hgrowS)
              have hbS : Below w.heap.size w wS := (HL.out.alloc HL.out.size _).trans (below_row HOW2.out hgrowS HL.out.size)
              rw [HSN9.out, HYS.out] at hownS
              have HO2 := Lib.hid hownS
              have HL2 := Lib.hid hbS
              clear hownS hbS hgrowS d0 d1 d2 d3 d4 d5 d9
              go_wp2_with fail
              go_roundw
              case rel => exact ⟨m + 1, by omega, by go_num, HO2K, HO2, HL2⟩
              case measure => simp [intOf]; omega
        · obtain rfl : m = n := by omega
          obtain ⟨oL, cL, rfl, hsp, hba⟩ := owns_spans HOW.out
          have H1 := Lib.hid hsp
          have H2 := Lib.hid hba
          clear hsp hba
          go_wp2_with fail
          refine bodyPost_ret (v := .tuple #[.slice oL m cL, .int .i64 0]) (by simp [results, Try.results19, go_sem]) rfl ⟨HL.out, .inr (.inr (.inr ⟨HLB.out, rfl, HOK.out, oL, cL, rfl, H1.out, H2.out⟩))⟩
    · have hne : ((m : Int) != (n : Int)) = true := by simp; omega
      go_wp2_with fail
      refine bodyPost_ret (v := .tuple #[.slice none 0 0, .int .i64 3]) (by simp [results, Try.results19, go_sem]) rfl ⟨HB2.out, .inr (.inl ⟨HLB.out, hmn, rfl⟩)⟩
theorem FstS.uniq {leaf : Nat → Prop} {v : Nat → Int} {k : Nat} {m x c m' x' c' : Int} (h : FstS leaf v k m x c) (h' : FstS leaf v k m' x' c') : x = x' ∧ c = c' := by
  rcases h with ⟨h1, h2, h3, h4⟩ | ⟨h1, y, h2, h3, h4, h5, h6, h7, h8⟩ <;> rcases h' with ⟨k1, k2, k3, k4⟩ | ⟨k1, y', k2, k3, k4, k5, k6, k7, k8⟩
  · exact ⟨by omega, by omega⟩
  · have := h4 y' k2 k4; omega
  · have := k4 y h2 h4; omega
  · have e : y = y' := by
      rcases Nat.lt_trichotomy y y' with hl | hl | hl
      · have a := k8 y hl h4
        have b := h7 y' k2 k4
        omega
      · exact hl
      · have a := h8 y' hl k4
        have b := k7 y h2 h4
        omega
    subst e
    exact ⟨by omega, by omega⟩
set_option maxRecDepth 100000 in
set_option maxHeartbeats 8000000 in
theorem dfirst_any (oa ob : Option Addr) (n ca m cb : Nat) (z : Nat → Zon) (u : Nat → Nig) (w : World) (hn : n ≤ 1000) (hm : m ≤ 1000) (hA : ZonsAt w oa n z) (hU : NigsAt w ob m u) :
    Calls Try.prog 21 #[.slice oa n ca, .slice ob m cb] w (FirstP n m z u w) := by
  have HPT := Lib.hid (fun (V : World) (hV : Below w.heap.size w V) (i : Nat) => dparts_any oa n ca i z V (by omega) (hA.mono hV))
  have HLK := Lib.hid (dleaks_any oa ob n ca m cb z u w (by omega) (by omega) hA hU)
  have HLS := Lib.hid (fun (V : World) (hV : Below w.heap.size w V) => dlosses_any oa n ca z V (by omega) (hA.mono hV))
  clear hA hU
  go_enter Try.func21, Try.ntmps21
  go_wp2_with fail
  refine HLK.out.mono ?_
  intro e w1 hp
  obtain ⟨hb1, ⟨hc, hc0, hc3, rfl⟩ | ⟨hc, hlb, hmn, hok, oL, cL, rfl, hsp, hba⟩⟩ := leakP_cases hp
  · have HC := Lib.hid hc
    have HB1 := Lib.hid hb1
    clear hp hb1 hc HLK HLS
    have hne : (leakC n m z u != 0) = true := by simpa using HC.out
    obtain ⟨c, hcc⟩ : ∃ c, c = leakC n m z u := ⟨_, rfl⟩
    rw [← hcc] at hne hc0 hc3 ⊢
    have HCC := Lib.hid hcc
    clear hcc
    go_wp2_with fail
    refine bodyPost_ret (v := .tuple #[.int .i64 0, .int .i64 c]) (by simp [results, Try.results21, go_sem]) rfl ⟨HB1.out, .inl ⟨HC.out, by rw [HCC.out]⟩⟩
  · have HC := Lib.hid hc
    have HB1 := Lib.hid hb1
    have HSP := Lib.hid hsp
    obtain ⟨hn1, hn2, -, -⟩ := listB_spec hlb
    have HLB := Lib.hid hlb
    clear hp hb1 hc hlb hsp hba HLK hmn hok
    go_wp2_with fail
    refine (HLS.out _ HB1.out).mono ?_
    rintro e w2 ⟨hb2, ⟨hl, rfl⟩ | ⟨hl, hr, rfl⟩ | ⟨hl, hr, oD, cD, rfl, hsd, -⟩⟩
    · rw [HLB.out] at hl; cases hl
    · have HR := Lib.hid hr
      have HB2 := Lib.hid (HB1.out.trans (hb2.mono HB1.out.size))
      clear hl hr hb2
      go_wp2_with fail
      refine bodyPost_ret (v := .tuple #[.int .i64 0, .int .i64 6]) (by simp [results, Try.results21, go_sem]) rfl ⟨HB2.out, .inr (.inl ⟨HC.out, HR.out, rfl⟩)⟩
    · have HR := Lib.hid hr
      have HB2 := Lib.hid (HB1.out.trans (hb2.mono HB1.out.size))
      have HSD := Lib.hid hsd
      replace HSP := Lib.hid (HSP.out.mono hb2)
      clear hl hr hb2 HLS hsd HB1 w1
      replace HPT := Lib.hid (fun (V : World) (hV : Below w2.heap.size w2 V) (i : Nat) => HPT.out V (HB2.out.trans (hV.mono HB2.out.size)) i)
      go_wp2_with fail
      go_loopw [9, 10, 11] (fun v9 v10 v11 wr => ∃ (k : Nat) (x c most : Int), k ≤ n ∧ v11 = .int .i64 k ∧ v9 = .int .i64 x ∧ v10 = .int .i64 most ∧ Hid (FstS (Leaf z n) (fun i => knV (dnF z n i) (leakS (u i))) k most x c) ∧ Hid (Below w2.heap.size w2 wr)) (fun _ _ v11 _ => n - (intOf v11).toNat)
      case atStart => exact ⟨0, 0, 4, 0, Nat.zero_le _, rfl, rfl, rfl, Lib.hid (FstS.zero _ _), Lib.hid (Below.refl _ _)⟩
      case round =>
        obtain ⟨k, x, c, most, hk, rfl, rfl, rfl, HF, HL⟩ := hrel
        by_cases hlt : k < n
        · obtain ⟨b, off, hoD, hl, c0, c1⟩ := (HSD.out.mono HL.out) k hlt
          subst hoD
          obtain ⟨b2, off2, hoL, hl2, e0, e1⟩ := (HSP.out.mono HL.out) k hlt
          subst hoL
          have HSK := Lib.hid (fun h => HF.out.skip (k := k) h)
          have HTK := Lib.hid (fun h1 h2 => HF.out.take (k := k) h1 h2)
          have HKV := Lib.hid (show knV (dnF z n k) (leakS (u k)) = max (dnF z n k).lo (min (leakS (u k)).lo (dnF z n k).hi) from rfl)
          have HLF := Lib.hid (show kidsTo z k n = [] ↔ Leaf z n k from ⟨fun h c hc hp => by
            have := mem_kidsTo.2 ⟨hc, hp⟩
            rw [h] at this; simp at this, fun h => List.eq_nil_iff_forall_not_mem.2 fun c hc => h c (mem_kidsTo.1 hc).1 (mem_kidsTo.1 hc).2⟩)
          obtain ⟨D, hD⟩ : ∃ D, D = dnF z n k := ⟨_, rfl⟩
          obtain ⟨L, hL⟩ : ∃ L, L = leakS (u k) := ⟨_, rfl⟩
          obtain ⟨V, hV⟩ : ∃ V, V = knV (dnF z n k) (leakS (u k)) := ⟨_, rfl⟩
          simp only at HSK HTK e0 e1
          rw [← hV] at HSK HTK HKV
          rw [← hD] at c0 c1 HKV
          rw [← hL] at e0 HKV
          have hm0 := HF.out.most0
          clear hD hV hL HF e1
          obtain ⟨dlo, dhi⟩ := D
          obtain ⟨llo, lhi⟩ := L
          simp only at c0 c1 e0 HKV
          have hk0 : (0 : Int) ≤ (k : Int) := by omega
          have hk1 : (k : Int) < (n : Int) := by omega
          go_upto_region 11 with fail
          have q0 : ∀ V : Aft wr, V.val.cell? ⟨b, off + k * 2, none⟩ = some (.int .i64 dlo) := fun V => (V.below.cell (p := ⟨b, off + k * 2, none⟩) hl).trans c0
          have q1 : ∀ V : Aft wr, V.val.cell? ⟨b, off + k * 2 + 1, none⟩ = some (.int .i64 dhi) := fun V => (V.below.cell (p := ⟨b, off + k * 2 + 1, none⟩) hl).trans c1
          have q2 : ∀ V : Aft wr, V.val.cell? ⟨b2, off2 + k * 2, none⟩ = some (.int .i64 llo) := fun V => (V.below.cell (p := ⟨b2, off2 + k * 2, none⟩) hl2).trans e0
          have q3 : ∀ V : Aft wr, b < V.val.heap.size := fun V => Nat.lt_of_lt_of_le hl V.below.size
          have q4 : ∀ V : Aft wr, b2 < V.val.heap.size := fun V => Nat.lt_of_lt_of_le hl2 V.below.size
          refine wp_region_aft (by kernel_rfl) (by kernel_rfl) ?_
          repeat (go_big_quiet_step (fail))
          refine wpQuiet_nil ?_
          intro WA
          obtain ⟨wy, hwy⟩ : ∃ X, X = WA.val := ⟨_, rfl⟩
          have hby := WA.below
          rw [← hwy] at hby ⊢
          clear hwy WA
          replace HL := Lib.hid (HL.out.trans (hby.mono HL.out.size))
          obtain ⟨mn, hmn⟩ : ∃ x, x = (if dhi < llo then dhi else llo) := ⟨_, rfl⟩
          rw [← hmn]
          have hv : (if dlo < mn then mn else dlo) = V := by rw [HKV.out, hmn]; split <;> split <;> omega
          rw [hv]
          clear hv hmn q0 q1 q2 q3 q4 hby HKV c0 c1 e0 hl hl2
          go_wp2_with fail
          refine (HPT.out _ HL.out k).mono ?_
          rintro e w4 ⟨⟨oP, cP, rfl, -, -⟩, hb4⟩
          have HL4 := Lib.hid (HL.out.trans (hb4.mono HL.out.size))
          clear hb4 HL
          obtain ⟨M, hM⟩ : ∃ M, M = (kidsTo z k n).length := ⟨_, rfl⟩
          rw [← hM]
          have HM := Lib.hid (show M = 0 ↔ Leaf z n k by rw [hM, List.length_eq_zero_iff]; exact HLF.out)
          clear hM HLF
          by_cases hM0 : M = 0
          · have hlf := Lib.hid (HM.out.1 hM0)
            subst hM0
            by_cases hgt : most < V
            · have HF2 := Lib.hid (HTK.out hlf.out hgt)
              have hd : decide (most < V) = true := decide_eq_true hgt
              clear HSK HTK
              go_wp2_with fail
              go_roundw
              case rel => exact ⟨k + 1, k, 0, V, by omega, by go_num, rfl, rfl, HF2, HL4⟩
              case measure => simp [intOf]; omega
            · have HF2 := Lib.hid (HSK.out fun _ => by omega)
              have hd : decide (most < V) = false := decide_eq_false hgt
              clear HSK HTK
              go_wp2_with fail
              go_roundw
              case rel => exact ⟨k + 1, x, c, most, by omega, by go_num, rfl, rfl, HF2, HL4⟩
              case measure => simp [intOf]; omega
          · have hmb : ((M : Int) == 0) = false := by simp; omega
            have HF2 := Lib.hid (HSK.out fun h => absurd (HM.out.2 h) hM0)
            clear HSK HTK HM hM0
            go_wp2_with fail
            go_roundw
            case rel => exact ⟨k + 1, x, c, most, by omega, by go_num, rfl, rfl, HF2, HL4⟩
            case measure => simp [intOf]; omega
        · obtain rfl : k = n := by omega
          have HFS := Lib.hid HF.out
          rcases HF.out with ⟨rfl, rfl, rfl, h4⟩ | ⟨rfl, y, h2, rfl, h4, h5, h6, h7, h8⟩
          · clear h4 HF
            go_wp2_with fail
            refine bodyPost_ret (v := .tuple #[.int .i64 0, .int .i64 4]) (by simp [results, Try.results21, go_sem]) rfl ⟨HB2.out.trans (HL.out.mono HB2.out.size), .inr (.inr ⟨HC.out, HR.out, 0, 0, 4, rfl, HFS.out⟩)⟩
          · have hmb : (most == 0) = false := by simp; omega
            clear h4 h5 h7 h8 HF
            go_wp2_with fail
            refine bodyPost_ret (v := .tuple #[.int .i64 y, .int .i64 0]) (by simp [results, Try.results21, go_sem]) rfl ⟨HB2.out.trans (HL.out.mono HB2.out.size), .inr (.inr ⟨HC.out, HR.out, most, y, 0, rfl, HFS.out⟩)⟩
end Go.Proofs.Ytipnaeijbbbdoaa
