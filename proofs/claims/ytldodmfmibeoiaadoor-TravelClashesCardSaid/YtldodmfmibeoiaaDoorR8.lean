/- Travel: the document's choose: a set that goes on; all sets. -/
import Derived.Test.YtldodmfmibeoiaaDoorR7
namespace Go.Proofs.YtldodmfmibeoiaaDoor
open Go.RowKit
theorem ints_ext {f g : Nat → Int} : ∀ {n}, (∀ i, i < n → f i = g i) → intNews n f = intNews n g
  | 0, _ => rfl
  | n + 1, h => by rw [int_news_succ, int_news_succ, ints_ext (fun i hi => h i (by omega)), h n (by omega)]
theorem ints_snoc (L : List Nat) (i : Nat) : intNews L.length (fun j => ((L.getD j 0 : Nat) : Int)) ++ [.int .i64 (i : Nat)] = intNews (L.length + 1) (fun j => (((L ++ [i]).getD j 0 : Nat) : Int)) := by
  rw [int_news_succ]
  have e1 : (L ++ [i]).getD L.length 0 = i := by simp [List.getD_eq_getElem?_getD]
  rw [e1]
  congr 1
  exact ints_ext fun j hj => by
    rw [List.getD_eq_getElem?_getD, List.getD_eq_getElem?_getD, List.getElem?_append_left hj]
set_option maxRecDepth 100000 in
set_option maxHeartbeats 16000000 in
theorem choose_step (r : Rnd) (oa : Option Addr) (ca : Nat) (off : Int) (many k : Nat) (hv : r.valid = true) (hmany : many ≤ 14)
    (IH : ∀ (L : List Nat) (lo : Option Addr) (lc : Nat) (w : World), GoodL r.n L → L.length + k = many → IntsAt w lo L.length (fun i => ((L.getD i 0 : Nat) : Int)) → (lo = none → L.length = 0 ∧ lc = 0) → TrpsAt w oa r.n r.t →
      Calls Tryd.prog 48 #[r.val oa ca, .int .i64 off, .int .i64 (many : Nat), .slice lo L.length lc] w (ChPost r off k L w))
    (L : List Nat) (lo : Option Addr) (lc : Nat) (w : World) (hg : GoodL r.n L) (hm : L.length + (k + 1) = many) (hI : IntsAt w lo L.length (fun i => ((L.getD i 0 : Nat) : Int))) (hnil : lo = none → L.length = 0 ∧ lc = 0) (hA : TrpsAt w oa r.n r.t) :
    Calls Tryd.prog 48 #[r.val oa ca, .int .i64 off, .int .i64 (many : Nat), .slice lo L.length lc] w (ChPost r off (k + 1) L w) := by
  have HIH0 := Lib.hid (show ∀ (i : Nat), i < r.n → nextL L ≤ i → ∀ (wp : World) (o8 : Option Addr) (c8 : Nat), Below w.heap.size w wp → IntsAt wp o8 (L.length + 1) (fun j => (((L ++ [i]).getD j 0 : Nat) : Int)) → Calls Tryd.prog 48 #[r.val oa ca, .int .i64 off, .int .i64 (many : Nat), .slice o8 (L.length + 1) c8] wp (ChPost r off k (L ++ [i]) wp) from fun i hi hi0 wp o8 c8 hb hI8 => by
    have e : (L ++ [i]).length = L.length + 1 := by simp
    have h9 := IH (L ++ [i]) o8 c8 wp (good_snoc hg hi hi0) (by rw [e]; omega) (by rw [e]; exact hI8) (fun e9 => by obtain ⟨b9, o9, q, -⟩ := hI8 0 (by omega); rw [e9] at q; cases q) (hA.mono hb)
    rw [e] at h9
    exact h9)
  have HSN := Lib.hid (ints_snoc L)
  have hn14 := (Rnd.valid_head hv).2.2.2
  have HNX := Lib.hid (show nextL L ≤ r.n by
    unfold nextL
    split
    · omega
    · rename_i m hm; have := hg.2 m (List.mem_of_getLast? hm); omega)
  have HLN := Lib.hid (show ∀ p, L.length = p + 1 → nextL L = L.getD p 0 + 1 from fun p hp => by
    rcases List.eq_nil_or_concat L with rfl | ⟨L', m, rfl⟩
    · cases hp
    · rw [List.concat_eq_append] at hp ⊢
      rw [List.length_append, List.length_singleton] at hp
      obtain rfl : L'.length = p := by omega
      simp [nextL, List.getD_eq_getElem?_getD])
  have HLZ := Lib.hid (show L.length = 0 → nextL L = 0 from fun h => by rw [List.eq_nil_of_length_eq_zero h]; rfl)
  have HGM := Lib.hid (show ∀ p, p < L.length → L.getD p 0 < r.n from fun p hp => hg.2 _ (getD_mem hp))
  obtain ⟨ℓ, hℓ⟩ : ∃ ℓ, ℓ = L.length := ⟨_, rfl⟩
  rw [← hℓ] at HIH0 HSN hm hI hnil HLN HLZ HGM ⊢
  clear hℓ IH hg hv
  have HA := Lib.hid hA
  have HI := Lib.hid hI
  have HNIL := Lib.hid hnil
  have hℓm : ℓ < many := by omega
  have hℓ14 : ℓ ≤ 13 := by omega
  clear hA hI hnil hm
  obtain ⟨iR, hiR, hzR0, hzR1, hzR2⟩ := info_parts (P := Tryd.prog) (e := 3) (z := .int .i64 0) (size := 1) (bytes := 8) (by kernel_rfl)
  go_enter Tryd.func48, Tryd.ntmps48
  have zz : ((ℓ : Int) == (many : Int)) = false := by simp; omega
  go_upto_region 10 with fail
  have hb0 := below_alloc1 w (.cells #[.int .i64 r.nb, .int .i64 r.nm, .int .i64 r.most, .slice oa r.n ca] 24)
  have hB := Box.new (g := w.heap.size) #[.int .i64 r.nb, .int .i64 r.nm, .int .i64 r.most, .slice oa r.n ca] 24 w rfl
  obtain ⟨W, hW⟩ : ∃ X, X = w.alloc (.cells #[.int .i64 r.nb, .int .i64 r.nm, .int .i64 r.most, .slice oa r.n ca] 24) := ⟨_, rfl⟩
  rw [← hW] at hb0 hB ⊢
  clear hW
  obtain ⟨gr, hgr⟩ : ∃ G, G = w.heap.size := ⟨_, rfl⟩
  rw [← hgr] at hB ⊢
  clear hgr
  have HL := Lib.hid hb0
  have HB := Lib.hid hB
  clear hb0 hB
  by_cases h0 : ℓ = 0
  · have z0 : decide (0 < (ℓ : Int)) = false := by simp; omega
    have z1 : decide ((ℓ : Int) > 0) = false := by simp; omega
    have z2 : decide (0 < ℓ) = false := by simp; omega
    have z3 : ¬ 0 < ℓ := by omega
    have HNV := Lib.hid (HLZ.out h0)
    clear HLN HLZ h0
    go_wp2_with fail
    go_loopw [12] (fun v12 wr => ∃ i : Nat, nextL L ≤ i ∧ i ≤ r.n ∧ v12 = .int .i64 i ∧ Hid (ChN r off k L i) ∧ Hid (Below w.heap.size w wr) ∧ Hid (Box gr #[.int .i64 r.nb, .int .i64 r.nm, .int .i64 r.most, .slice oa r.n ca] 24 wr)) (fun i _ => r.n - (intOf i).toNat)
    case atStart => exact ⟨nextL L, Nat.le_refl _, HNX.out, by rw [HNV.out]; first | done | rfl | go_num, Lib.hid ChN.start, HL, HB⟩
    case round =>
      clear HL HB HNV
      obtain ⟨i, hi0, hi, rfl, HCN, HL, HB⟩ := hrel
      have b3 := HB.out.cell 3 (v := .slice oa r.n ca) rfl
      have b4 := HB.out.lt
      by_cases hlt : i < r.n
      · have hlt2 : (i : Int) < (r.n : Int) := by omega
        have HNW := Lib.hid (show ∀ (w2 : World) (ad : Addr), Below wr.heap.size wr w2 → lo = some ad → ∀ j u, (intNews ℓ (fun j => ((L.getD j 0 : Nat) : Int)))[j]? = some u → w2.cell? (ad.add j) = some u from fun w2 ad hb2 had j u hu => by
          obtain ⟨hj, rfl⟩ := news_at hu
          obtain ⟨b9, o9, q, hl9, c9⟩ := (HI.out.mono HL.out) j hj
          rw [had] at q
          cases q
          rw [add_flat]
          exact (hb2.cell (p := ⟨b9, o9 + j, none⟩) hl9).trans c9)
        have HIH := Lib.hid (fun (wp : World) (o8 : Option Addr) (c8 : Nat) (hb : Below wr.heap.size wr wp) (hI8 : IntsAt wp o8 (ℓ + 1) (fun j => (((L ++ [i]).getD j 0 : Nat) : Int))) => HIH0.out i hlt hi0 wp o8 c8 (HL.out.trans (hb.mono HL.out.size)) hI8)
        go_upto_region 16 with fail
        clear b3 b4
        go_cut [13] (fun v13 wx => Below wr.heap.size wr wx ∧ ((ChI r off k (L ++ [i]) none ∧ v13 = .slice none 0 0) ∨ ∃ M a c, ChI r off k (L ++ [i]) (some M) ∧ v13 = .slice (some a) M.length c ∧ IntsAt wx (some a) M.length (fun i => ((M.getD i 0 : Nat) : Int))))
        case first =>
          as_aux_lemma =>
            have hCC : ∀ A B : World, Below wr.heap.size wr A → Below A.heap.size A B → Below wr.heap.size wr B := fun A B h1 h2 => h1.trans (h2.mono h1.size)
            have hC0 : Below wr.heap.size wr wr.drew := (Below.refl _ _).drew
            refine wp_region_garb (fun A => Below wr.heap.size wr A) (by kernel_rfl) ?_
            (refine wpAnyG_take (i := 0) hCC hC0 rfl (by kernel_rfl) (by kernel_rfl) (by kernel_rfl) (fun _ _ _ _ h => h) (by rfl) ?_; apply Exists.intro; refine ⟨fun w1 h1 K hK => ?_, ?_⟩; · (have q0 : ∀ V : Aft w1, V.val.cell? ⟨gr, 0, none⟩ = some (.int .i64 r.nb) := fun V => (HB.out.below (hCC _ _ h1 V.below)).cell 0 rfl; have q1 : ∀ V : Aft w1, V.val.cell? ⟨gr, 1, none⟩ = some (.int .i64 r.nm) := fun V => (HB.out.below (hCC _ _ h1 V.below)).cell 1 rfl; have q2 : ∀ V : Aft w1, V.val.cell? ⟨gr, 2, none⟩ = some (.int .i64 r.most) := fun V => (HB.out.below (hCC _ _ h1 V.below)).cell 2 rfl; have q3 : ∀ V : Aft w1, V.val.cell? ⟨gr, 3, none⟩ = some (.slice oa r.n ca) := fun V => (HB.out.below (hCC _ _ h1 V.below)).cell 3 rfl; have q4 : ∀ V : Aft w1, gr < V.val.heap.size := fun V => (HB.out.below (hCC _ _ h1 V.below)).lt; go_big_quiet_op; first | exact hK | fail))
            (refine wpAnyG_take (i := 1) hCC hC0 rfl (by kernel_rfl) (by kernel_rfl) (by kernel_rfl) (fun _ _ _ _ h => h) (by rfl) ?_; apply Exists.intro; refine ⟨fun w1 h1 K hK => ?_, ?_⟩; · ( go_big_quiet_op; first | exact hK | fail))
            (refine wpAnyG_take (i := 2) hCC hC0 rfl (by kernel_rfl) (by kernel_rfl) (by kernel_rfl) (fun _ _ _ _ h => h) (by rfl) ?_; apply Exists.intro; refine ⟨fun w1 h1 K hK => ?_, ?_⟩; · ( go_big_quiet_op; first | exact hK | fail))
            (refine wpAnyG_take (i := 4) hCC hC0 rfl (by kernel_rfl) (by kernel_rfl) (by kernel_rfl) (fun _ _ _ _ h => h) (by rfl) ?_; apply Exists.intro; refine ⟨fun w1 h1 K hK => ?_, ?_⟩; · ( go_big_quiet_op; first | exact hK | fail))
            (refine wpAnyG_take (i := 6) hCC hC0 rfl (by kernel_rfl) (by kernel_rfl) (by kernel_rfl) (fun _ _ _ _ h => h) (by rfl) ?_; apply Exists.intro; refine ⟨fun w1 h1 K hK => ?_, ?_⟩; · ( go_big_quiet_op; first | exact hK | fail))
            (refine wpAnyG_two (i := 3) (k := 7) (by kernel_rfl) rfl rfl (by rfl) (by rfl) (fun wa hwa K hK => ?_) (fun wa hwa K hK => ?_))
            ·
              go_simp
              have hCa := hCC _ _ hC0 hwa
              have hC1 := hCa.alloc (by have := hCa.size; omega) (.cells #[] 3)
              refine hK _ _ hC1 ?_
              clear hK K
              have hsz := hCa.size
              have r3 : (wa.alloc (.cells #[] 3)).ownsRow wr.heap.size 3 1 (.slice (some ⟨wa.heap.size, 0, none⟩) 0 0) 0 [] := owns_empty hsz (heap_new rfl)
              obtain ⟨g3, hG⟩ : ∃ G, G = wa.heap.size := ⟨_, rfl⟩
              obtain ⟨wN, hWA⟩ : ∃ X, X = wa.alloc (.cells #[] 3) := ⟨_, rfl⟩
              rw [← hWA] at hC1 r3 ⊢
              rw [← hG] at r3 ⊢
              have hl3 : g3 < wN.heap.size := by rw [hWA, hG]; simp
              clear hC0 hwa hCa hsz hG hWA
              have hC0 := hC1
              clear hC1
              (refine wpAnyG_two (i := 5) (k := 7) (by kernel_rfl) rfl rfl (by rfl) (by rfl) (fun wa hwa K hK => ?_) (fun wa hwa K hK => ?_))
              ·
                have hCa := hCC _ _ hC0 hwa
                replace r3 := owns_below r3 hwa
                refine wp_append_gen (.tmp 60) (.tmp 61) 37 rfl wr.heap.size 3 iR _ 1 8 Tryd.underlying37 hiR hzR0 hzR1 hzR2 rfl (by omega) (.slice (some ⟨g3, 0, none⟩) 0 0) 0 [] rfl r3 lo ℓ lc (intNews ℓ (fun j => ((L.getD j 0 : Nat) : Int))) rfl HNIL.out (by simp [intNews]) (fun ad9 e9 => HNW.out _ ad9 hCa e9) news_one (by simp only [maxLen]; omega) (by omega) hCa.size (fun vS wS hownS hgrowS => ?_)
                have hC1 : Below wr.heap.size wr wS := below_grown hCa r3 hgrowS
                rw [List.nil_append, Nat.zero_add] at hownS
                clear r3 hgrowS hCa hwa hC0
                obtain ⟨o5, c5, rfl, -⟩ := owns_form hownS
                go_simp
                refine hK _ _ hC1 ?_
                clear hK K
                have hC0 := hC1
                have r5 := hownS
                clear hC1 hownS
                (refine wpAnyG_one (i := 7) (by kernel_rfl) rfl (by rfl) (fun wa hwa K hK => ?_))
                go_simp
                have hCa := hCC _ _ hC0 hwa
                replace r5 := owns_below (owns_below r5 hwa) (below_alloc1 wa (.cells #[.int .i64 (i : Nat)] 3))
                have hC1 := hCa.alloc (by have := hCa.size; omega) (.cells #[.int .i64 (i : Nat)] 3)
                refine hK _ _ hC1 ?_
                clear hK K
                have hsz := hCa.size
                have z7 := Box.new (g := wa.heap.size) #[.int .i64 (i : Nat)] 3 wa rfl
                obtain ⟨g7, hG⟩ : ∃ G, G = wa.heap.size := ⟨_, rfl⟩
                obtain ⟨wN, hWA⟩ : ∃ X, X = wa.alloc (.cells #[.int .i64 (i : Nat)] 3) := ⟨_, rfl⟩
                rw [← hWA] at hC1 z7 r5 ⊢
                rw [← hG] at z7 ⊢
                clear hC0 hwa hCa hsz hG hWA
                have hC0 := hC1
                clear hC1
                (refine wpAnyG_one (i := 8) (by kernel_rfl) rfl (by rfl) (fun wa hwa K hK => ?_))
                have hCa := hCC _ _ hC0 hwa
                replace r5 := owns_below r5 hwa
                replace z7 := z7.below hwa
                refine wp_append_gen (.tmp 62) (.tmp 64) 37 rfl wr.heap.size 3 iR _ 1 8 Tryd.underlying37 hiR hzR0 hzR1 hzR2 rfl (by omega) (.slice o5 ℓ c5) ℓ (intNews ℓ (fun j => ((L.getD j 0 : Nat) : Int))) rfl r5 (some ⟨g7, 0, none⟩) 1 1 [.int .i64 (i : Nat)] rfl (fun e9 => by cases e9) rfl (fun ad9 e9 j9 u9 hu9 => by cases e9; rw [add_flat, Nat.zero_add]; exact z7.cell j9 (by rw [List.getElem?_toArray]; exact hu9)) (by simp [Value.oneCell']) (by simp only [maxLen]; omega) (by omega) hCa.size (fun vS wS hownS hgrowS => ?_)
                have hC1 : Below wr.heap.size wr wS := below_grown hCa r5 hgrowS
                rw [HSN.out i] at hownS
                clear r5 z7 hgrowS hCa hwa hC0
                obtain ⟨o8, c8, rfl, hI8, -⟩ := owns_ints hownS
                go_simp
                refine hK _ _ hC1 ?_
                clear hK K hownS
                (refine wpAnyG_one (i := 9) (by kernel_rfl) rfl (by rfl) (fun wp hwp K hK => ?_))
                go_simp
                have hC2 := hCC _ _ hC1 hwp
                refine (HIH.out wp o8 c8 hC2 (hI8.mono hwp)).mono ?_
                intro e w2 hp
                obtain ⟨hb2, hp⟩ := hp
                have hC3 := hCC _ _ hC2 hb2
                clear hI8 hC1 hC2 hwp hb2
                rcases hp with ⟨hci, rfl⟩ | ⟨M, ma, mc, hci, rfl, hIM⟩
                · refine hK _ _ hC3 ?_
                  clear hK K
                  (refine wpAnyG_one (i := 10) (by kernel_rfl) rfl (by rfl) (fun wq hwq K hK => ?_))
                  go_simp
                  have hC4 := hCC _ _ hC3 hwq
                  refine hK _ _ hC4 ?_
                  clear hK K
                  refine wpAnyG_done (by kernel_rfl) (fun wz hwz => ?_) _
                  go_wp2_with fail
                  go_meet
                  exact ⟨hCC _ _ hC4 hwz, .inl ⟨hci, rfl⟩⟩
                · refine hK _ _ hC3 ?_
                  clear hK K
                  (refine wpAnyG_one (i := 10) (by kernel_rfl) rfl (by rfl) (fun wq hwq K hK => ?_))
                  go_simp
                  have hC4 := hCC _ _ hC3 hwq
                  refine hK _ _ hC4 ?_
                  clear hK K
                  refine wpAnyG_done (by kernel_rfl) (fun wz hwz => ?_) _
                  go_wp2_with fail
                  go_meet
                  exact ⟨hCC _ _ hC4 hwz, .inr ⟨M, ma, mc, hci, rfl, (hIM.mono hwq).mono hwz⟩⟩
              ·
                go_simp
                have hCa := hCC _ _ hC0 hwa
                replace r3 := owns_below (owns_below r3 hwa) (below_alloc1 wa (.cells #[.int .i64 (i : Nat)] 3))
                have hC1 := hCa.alloc (by have := hCa.size; omega) (.cells #[.int .i64 (i : Nat)] 3)
                refine hK _ _ hC1 ?_
                clear hK K
                have hsz := hCa.size
                have z7 := Box.new (g := wa.heap.size) #[.int .i64 (i : Nat)] 3 wa rfl
                have n37 : g3 ≠ wa.heap.size := by have := hl3; have := hwa.size; omega
                obtain ⟨g7, hG⟩ : ∃ G, G = wa.heap.size := ⟨_, rfl⟩
                obtain ⟨wN, hWA⟩ : ∃ X, X = wa.alloc (.cells #[.int .i64 (i : Nat)] 3) := ⟨_, rfl⟩
                rw [← hWA] at hC1 z7 r3 ⊢
                rw [← hG] at z7 n37 ⊢
                clear hC0 hwa hCa hsz hG hWA hl3
                have hC0 := hC1
                clear hC1
                (refine wpAnyG_one (i := 5) (by kernel_rfl) rfl (by rfl) (fun wa hwa K hK => ?_))
                have hCa := hCC _ _ hC0 hwa
                replace r3 := owns_below r3 hwa
                replace z7 := z7.below hwa
                refine wp_append_gen (.tmp 60) (.tmp 61) 37 rfl wr.heap.size 3 iR _ 1 8 Tryd.underlying37 hiR hzR0 hzR1 hzR2 rfl (by omega) (.slice (some ⟨g3, 0, none⟩) 0 0) 0 [] rfl r3 lo ℓ lc (intNews ℓ (fun j => ((L.getD j 0 : Nat) : Int))) rfl HNIL.out (by simp [intNews]) (fun ad9 e9 => HNW.out _ ad9 hCa e9) news_one (by simp only [maxLen]; omega) (by omega) hCa.size (fun vS wS hownS hgrowS => ?_)
                have hC1 : Below wr.heap.size wr wS := below_grown hCa r3 hgrowS
                replace z7 : Box g7 #[.int .i64 (i : Nat)] 3 wS := ⟨heap_grown hgrowS z7.lt (fun e9 => n37 (Option.some.inj e9).symm) z7.row⟩
                rw [List.nil_append, Nat.zero_add] at hownS
                clear r3 hgrowS hCa hwa hC0
                obtain ⟨o5, c5, rfl, -⟩ := owns_form hownS
                go_simp
                refine hK _ _ hC1 ?_
                clear hK K
                have hC0 := hC1
                have r5 := hownS
                clear hC1 hownS
                (refine wpAnyG_one (i := 8) (by kernel_rfl) rfl (by rfl) (fun wa hwa K hK => ?_))
                have hCa := hCC _ _ hC0 hwa
                replace r5 := owns_below r5 hwa
                replace z7 := z7.below hwa
                refine wp_append_gen (.tmp 62) (.tmp 64) 37 rfl wr.heap.size 3 iR _ 1 8 Tryd.underlying37 hiR hzR0 hzR1 hzR2 rfl (by omega) (.slice o5 ℓ c5) ℓ (intNews ℓ (fun j => ((L.getD j 0 : Nat) : Int))) rfl r5 (some ⟨g7, 0, none⟩) 1 1 [.int .i64 (i : Nat)] rfl (fun e9 => by cases e9) rfl (fun ad9 e9 j9 u9 hu9 => by cases e9; rw [add_flat, Nat.zero_add]; exact z7.cell j9 (by rw [List.getElem?_toArray]; exact hu9)) (by simp [Value.oneCell']) (by simp only [maxLen]; omega) (by omega) hCa.size (fun vS wS hownS hgrowS => ?_)
                have hC1 : Below wr.heap.size wr wS := below_grown hCa r5 hgrowS
                rw [HSN.out i] at hownS
                clear r5 z7 hgrowS hCa hwa hC0
                obtain ⟨o8, c8, rfl, hI8, -⟩ := owns_ints hownS
                go_simp
                refine hK _ _ hC1 ?_
                clear hK K hownS
                (refine wpAnyG_one (i := 9) (by kernel_rfl) rfl (by rfl) (fun wp hwp K hK => ?_))
                go_simp
                have hC2 := hCC _ _ hC1 hwp
                refine (HIH.out wp o8 c8 hC2 (hI8.mono hwp)).mono ?_
                intro e w2 hp
                obtain ⟨hb2, hp⟩ := hp
                have hC3 := hCC _ _ hC2 hb2
                clear hI8 hC1 hC2 hwp hb2
                rcases hp with ⟨hci, rfl⟩ | ⟨M, ma, mc, hci, rfl, hIM⟩
                · refine hK _ _ hC3 ?_
                  clear hK K
                  (refine wpAnyG_one (i := 10) (by kernel_rfl) rfl (by rfl) (fun wq hwq K hK => ?_))
                  go_simp
                  have hC4 := hCC _ _ hC3 hwq
                  refine hK _ _ hC4 ?_
                  clear hK K
                  refine wpAnyG_done (by kernel_rfl) (fun wz hwz => ?_) _
                  go_wp2_with fail
                  go_meet
                  exact ⟨hCC _ _ hC4 hwz, .inl ⟨hci, rfl⟩⟩
                · refine hK _ _ hC3 ?_
                  clear hK K
                  (refine wpAnyG_one (i := 10) (by kernel_rfl) rfl (by rfl) (fun wq hwq K hK => ?_))
                  go_simp
                  have hC4 := hCC _ _ hC3 hwq
                  refine hK _ _ hC4 ?_
                  clear hK K
                  refine wpAnyG_done (by kernel_rfl) (fun wz hwz => ?_) _
                  go_wp2_with fail
                  go_meet
                  exact ⟨hCC _ _ hC4 hwz, .inr ⟨M, ma, mc, hci, rfl, (hIM.mono hwq).mono hwz⟩⟩
            ·
              go_simp
              have hCa := hCC _ _ hC0 hwa
              have hC1 := hCa.alloc (by have := hCa.size; omega) (.cells #[.int .i64 (i : Nat)] 3)
              refine hK _ _ hC1 ?_
              clear hK K
              have hsz := hCa.size
              have z7 := Box.new (g := wa.heap.size) #[.int .i64 (i : Nat)] 3 wa rfl
              obtain ⟨g7, hG⟩ : ∃ G, G = wa.heap.size := ⟨_, rfl⟩
              obtain ⟨wN, hWA⟩ : ∃ X, X = wa.alloc (.cells #[.int .i64 (i : Nat)] 3) := ⟨_, rfl⟩
              rw [← hWA] at hC1 z7 ⊢
              rw [← hG] at z7 ⊢
              clear hC0 hwa hCa hsz hG hWA
              have hC0 := hC1
              clear hC1
              (refine wpAnyG_one (i := 3) (by kernel_rfl) rfl (by rfl) (fun wa hwa K hK => ?_))
              go_simp
              have hCa := hCC _ _ hC0 hwa
              have z7k := z7
              replace z7 := (z7.below hwa).old (.cells #[] 3)
              have hC1 := hCa.alloc (by have := hCa.size; omega) (.cells #[] 3)
              refine hK _ _ hC1 ?_
              clear hK K
              have hsz := hCa.size
              have r3 : (wa.alloc (.cells #[] 3)).ownsRow wr.heap.size 3 1 (.slice (some ⟨wa.heap.size, 0, none⟩) 0 0) 0 [] := owns_empty hsz (heap_new rfl)
              have n37 : wa.heap.size ≠ g7 := by have := (z7k.below hwa).lt; omega
              obtain ⟨g3, hG⟩ : ∃ G, G = wa.heap.size := ⟨_, rfl⟩
              obtain ⟨wN, hWA⟩ : ∃ X, X = wa.alloc (.cells #[] 3) := ⟨_, rfl⟩
              rw [← hWA] at hC1 r3 z7 ⊢
              rw [← hG] at r3 n37 ⊢
              have hl3 : g3 < wN.heap.size := by rw [hWA, hG]; simp
              clear hC0 hwa hCa hsz hG hWA z7k
              have hC0 := hC1
              clear hC1
              (refine wpAnyG_one (i := 5) (by kernel_rfl) rfl (by rfl) (fun wa hwa K hK => ?_))
              have hCa := hCC _ _ hC0 hwa
              replace r3 := owns_below r3 hwa
              replace z7 := z7.below hwa
              refine wp_append_gen (.tmp 60) (.tmp 61) 37 rfl wr.heap.size 3 iR _ 1 8 Tryd.underlying37 hiR hzR0 hzR1 hzR2 rfl (by omega) (.slice (some ⟨g3, 0, none⟩) 0 0) 0 [] rfl r3 lo ℓ lc (intNews ℓ (fun j => ((L.getD j 0 : Nat) : Int))) rfl HNIL.out (by simp [intNews]) (fun ad9 e9 => HNW.out _ ad9 hCa e9) news_one (by simp only [maxLen]; omega) (by omega) hCa.size (fun vS wS hownS hgrowS => ?_)
              have hC1 : Below wr.heap.size wr wS := below_grown hCa r3 hgrowS
              replace z7 : Box g7 #[.int .i64 (i : Nat)] 3 wS := ⟨heap_grown hgrowS z7.lt (fun e9 => n37 (Option.some.inj e9).symm) z7.row⟩
              rw [List.nil_append, Nat.zero_add] at hownS
              clear r3 hgrowS hCa hwa hC0
              obtain ⟨o5, c5, rfl, -⟩ := owns_form hownS
              go_simp
              refine hK _ _ hC1 ?_
              clear hK K
              have hC0 := hC1
              have r5 := hownS
              clear hC1 hownS
              (refine wpAnyG_one (i := 8) (by kernel_rfl) rfl (by rfl) (fun wa hwa K hK => ?_))
              have hCa := hCC _ _ hC0 hwa
              replace r5 := owns_below r5 hwa
              replace z7 := z7.below hwa
              refine wp_append_gen (.tmp 62) (.tmp 64) 37 rfl wr.heap.size 3 iR _ 1 8 Tryd.underlying37 hiR hzR0 hzR1 hzR2 rfl (by omega) (.slice o5 ℓ c5) ℓ (intNews ℓ (fun j => ((L.getD j 0 : Nat) : Int))) rfl r5 (some ⟨g7, 0, none⟩) 1 1 [.int .i64 (i : Nat)] rfl (fun e9 => by cases e9) rfl (fun ad9 e9 j9 u9 hu9 => by cases e9; rw [add_flat, Nat.zero_add]; exact z7.cell j9 (by rw [List.getElem?_toArray]; exact hu9)) (by simp [Value.oneCell']) (by simp only [maxLen]; omega) (by omega) hCa.size (fun vS wS hownS hgrowS => ?_)
              have hC1 : Below wr.heap.size wr wS := below_grown hCa r5 hgrowS
              rw [HSN.out i] at hownS
              clear r5 z7 hgrowS hCa hwa hC0
              obtain ⟨o8, c8, rfl, hI8, -⟩ := owns_ints hownS
              go_simp
              refine hK _ _ hC1 ?_
              clear hK K hownS
              (refine wpAnyG_one (i := 9) (by kernel_rfl) rfl (by rfl) (fun wp hwp K hK => ?_))
              go_simp
              have hC2 := hCC _ _ hC1 hwp
              refine (HIH.out wp o8 c8 hC2 (hI8.mono hwp)).mono ?_
              intro e w2 hp
              obtain ⟨hb2, hp⟩ := hp
              have hC3 := hCC _ _ hC2 hb2
              clear hI8 hC1 hC2 hwp hb2
              rcases hp with ⟨hci, rfl⟩ | ⟨M, ma, mc, hci, rfl, hIM⟩
              · refine hK _ _ hC3 ?_
                clear hK K
                (refine wpAnyG_one (i := 10) (by kernel_rfl) rfl (by rfl) (fun wq hwq K hK => ?_))
                go_simp
                have hC4 := hCC _ _ hC3 hwq
                refine hK _ _ hC4 ?_
                clear hK K
                refine wpAnyG_done (by kernel_rfl) (fun wz hwz => ?_) _
                go_wp2_with fail
                go_meet
                exact ⟨hCC _ _ hC4 hwz, .inl ⟨hci, rfl⟩⟩
              · refine hK _ _ hC3 ?_
                clear hK K
                (refine wpAnyG_one (i := 10) (by kernel_rfl) rfl (by rfl) (fun wq hwq K hK => ?_))
                go_simp
                have hC4 := hCC _ _ hC3 hwq
                refine hK _ _ hC4 ?_
                clear hK K
                refine wpAnyG_done (by kernel_rfl) (fun wz hwz => ?_) _
                go_wp2_with fail
                go_meet
                exact ⟨hCC _ _ hC4 hwz, .inr ⟨M, ma, mc, hci, rfl, (hIM.mono hwq).mono hwz⟩⟩
        case rest =>
          obtain ⟨hbz, hcz⟩ := hcut
          have HL2 := Lib.hid (HL.out.trans (hbz.mono HL.out.size))
          have HB2 := Lib.hid (HB.out.below hbz)
          clear hbz HIH HNW
          rcases hcz with ⟨hci, rfl⟩ | ⟨M, ma, mc, hci, rfl, hIM⟩
          · have HCN2 := Lib.hid (HCN.out.next hci)
            clear hci HCN
            go_wp2_with fail
            go_roundw
            case rel => exact ⟨i + 1, by omega, by omega, by go_num, HCN2, HL2, HB2⟩
            case measure => simp [intOf]; omega
          · have HP := Lib.hid (show ChPost r off (k + 1) L w (.returned (.slice (some ma) M.length mc)) _ from ⟨HL2.out, .inr ⟨M, ma, mc, HCN.out.found hci, rfl, hIM⟩⟩)
            clear hci HCN hIM
            go_wp2_with fail
            go_ret
            exact HP.out
      · obtain rfl : i = r.n := by omega
        have HP := Lib.hid (show ChPost r off (k + 1) L w (.returned (.slice none 0 0)) wr from ⟨HL.out, .inl ⟨HCN.out.none (Nat.le_refl _), rfl⟩⟩)
        go_wp2_with fail
        go_ret
        exact HP.out
  · obtain ⟨p, hp⟩ : ∃ p, ℓ = p + 1 := ⟨ℓ - 1, by omega⟩
    have z0 : decide (0 < (ℓ : Int)) = true := by simp; omega
    have z1 : decide ((ℓ : Int) > 0) = true := by simp; omega
    have z2 : decide (0 < ℓ) = true := by simp; omega
    have z3 : 0 < ℓ := by omega
    have HNV := Lib.hid (HLN.out p hp)
    have hpl : p < ℓ := by omega
    have hpi : (ℓ : Int) - 1 = (p : Int) := by omega
    have hp0 : (0 : Int) ≤ (p : Int) := by omega
    have hp1 : (p : Int) < (ℓ : Int) := by omega
    obtain ⟨lb, lq, elo, lhl, lc0⟩ := (HI.out.mono HL.out) p hpl
    subst elo
    have hgm := HGM.out p hpl
    simp only at lc0
    obtain ⟨m, hm⟩ : ∃ m, m = L.getD p 0 := ⟨_, rfl⟩
    rw [← hm] at lc0 hgm HNV
    clear hm HLN HLZ h0 hp
    go_wp2_with fail
    clear lc0 lhl hpi hp0 hp1 z0 z1
    obtain ⟨lo, hlo⟩ : ∃ x, x = some (⟨lb, lq, none⟩ : Addr) := ⟨_, rfl⟩
    rw [← hlo] at HI HNIL ⊢
    clear hlo
    go_loopw [12] (fun v12 wr => ∃ i : Nat, nextL L ≤ i ∧ i ≤ r.n ∧ v12 = .int .i64 i ∧ Hid (ChN r off k L i) ∧ Hid (Below w.heap.size w wr) ∧ Hid (Box gr #[.int .i64 r.nb, .int .i64 r.nm, .int .i64 r.most, .slice oa r.n ca] 24 wr)) (fun i _ => r.n - (intOf i).toNat)
    case atStart => exact ⟨nextL L, Nat.le_refl _, HNX.out, by rw [HNV.out]; first | done | rfl | go_num, Lib.hid ChN.start, HL, HB⟩
    case round =>
      clear HL HB HNV
      obtain ⟨i, hi0, hi, rfl, HCN, HL, HB⟩ := hrel
      have b3 := HB.out.cell 3 (v := .slice oa r.n ca) rfl
      have b4 := HB.out.lt
      by_cases hlt : i < r.n
      · have hlt2 : (i : Int) < (r.n : Int) := by omega
        have HNW := Lib.hid (show ∀ (w2 : World) (ad : Addr), Below wr.heap.size wr w2 → lo = some ad → ∀ j u, (intNews ℓ (fun j => ((L.getD j 0 : Nat) : Int)))[j]? = some u → w2.cell? (ad.add j) = some u from fun w2 ad hb2 had j u hu => by
          obtain ⟨hj, rfl⟩ := news_at hu
          obtain ⟨b9, o9, q, hl9, c9⟩ := (HI.out.mono HL.out) j hj
          rw [had] at q
          cases q
          rw [add_flat]
          exact (hb2.cell (p := ⟨b9, o9 + j, none⟩) hl9).trans c9)
        have HIH := Lib.hid (fun (wp : World) (o8 : Option Addr) (c8 : Nat) (hb : Below wr.heap.size wr wp) (hI8 : IntsAt wp o8 (ℓ + 1) (fun j => (((L ++ [i]).getD j 0 : Nat) : Int))) => HIH0.out i hlt hi0 wp o8 c8 (HL.out.trans (hb.mono HL.out.size)) hI8)
        go_upto_region 16 with fail
        clear b3 b4
        go_cut [13] (fun v13 wx => Below wr.heap.size wr wx ∧ ((ChI r off k (L ++ [i]) none ∧ v13 = .slice none 0 0) ∨ ∃ M a c, ChI r off k (L ++ [i]) (some M) ∧ v13 = .slice (some a) M.length c ∧ IntsAt wx (some a) M.length (fun i => ((M.getD i 0 : Nat) : Int))))
        case first =>
          as_aux_lemma =>
            have hCC : ∀ A B : World, Below wr.heap.size wr A → Below A.heap.size A B → Below wr.heap.size wr B := fun A B h1 h2 => h1.trans (h2.mono h1.size)
            have hC0 : Below wr.heap.size wr wr.drew := (Below.refl _ _).drew
            refine wp_region_garb (fun A => Below wr.heap.size wr A) (by kernel_rfl) ?_
            (refine wpAnyG_take (i := 0) hCC hC0 rfl (by kernel_rfl) (by kernel_rfl) (by kernel_rfl) (fun _ _ _ _ h => h) (by rfl) ?_; apply Exists.intro; refine ⟨fun w1 h1 K hK => ?_, ?_⟩; · (have q0 : ∀ V : Aft w1, V.val.cell? ⟨gr, 0, none⟩ = some (.int .i64 r.nb) := fun V => (HB.out.below (hCC _ _ h1 V.below)).cell 0 rfl; have q1 : ∀ V : Aft w1, V.val.cell? ⟨gr, 1, none⟩ = some (.int .i64 r.nm) := fun V => (HB.out.below (hCC _ _ h1 V.below)).cell 1 rfl; have q2 : ∀ V : Aft w1, V.val.cell? ⟨gr, 2, none⟩ = some (.int .i64 r.most) := fun V => (HB.out.below (hCC _ _ h1 V.below)).cell 2 rfl; have q3 : ∀ V : Aft w1, V.val.cell? ⟨gr, 3, none⟩ = some (.slice oa r.n ca) := fun V => (HB.out.below (hCC _ _ h1 V.below)).cell 3 rfl; have q4 : ∀ V : Aft w1, gr < V.val.heap.size := fun V => (HB.out.below (hCC _ _ h1 V.below)).lt; go_big_quiet_op; first | exact hK | fail))
            (refine wpAnyG_take (i := 1) hCC hC0 rfl (by kernel_rfl) (by kernel_rfl) (by kernel_rfl) (fun _ _ _ _ h => h) (by rfl) ?_; apply Exists.intro; refine ⟨fun w1 h1 K hK => ?_, ?_⟩; · ( go_big_quiet_op; first | exact hK | fail))
            (refine wpAnyG_take (i := 2) hCC hC0 rfl (by kernel_rfl) (by kernel_rfl) (by kernel_rfl) (fun _ _ _ _ h => h) (by rfl) ?_; apply Exists.intro; refine ⟨fun w1 h1 K hK => ?_, ?_⟩; · ( go_big_quiet_op; first | exact hK | fail))
            (refine wpAnyG_take (i := 4) hCC hC0 rfl (by kernel_rfl) (by kernel_rfl) (by kernel_rfl) (fun _ _ _ _ h => h) (by rfl) ?_; apply Exists.intro; refine ⟨fun w1 h1 K hK => ?_, ?_⟩; · ( go_big_quiet_op; first | exact hK | fail))
            (refine wpAnyG_take (i := 6) hCC hC0 rfl (by kernel_rfl) (by kernel_rfl) (by kernel_rfl) (fun _ _ _ _ h => h) (by rfl) ?_; apply Exists.intro; refine ⟨fun w1 h1 K hK => ?_, ?_⟩; · ( go_big_quiet_op; first | exact hK | fail))
            (refine wpAnyG_two (i := 3) (k := 7) (by kernel_rfl) rfl rfl (by rfl) (by rfl) (fun wa hwa K hK => ?_) (fun wa hwa K hK => ?_))
            ·
              go_simp
              have hCa := hCC _ _ hC0 hwa
              have hC1 := hCa.alloc (by have := hCa.size; omega) (.cells #[] 3)
              refine hK _ _ hC1 ?_
              clear hK K
              have hsz := hCa.size
              have r3 : (wa.alloc (.cells #[] 3)).ownsRow wr.heap.size 3 1 (.slice (some ⟨wa.heap.size, 0, none⟩) 0 0) 0 [] := owns_empty hsz (heap_new rfl)
              obtain ⟨g3, hG⟩ : ∃ G, G = wa.heap.size := ⟨_, rfl⟩
              obtain ⟨wN, hWA⟩ : ∃ X, X = wa.alloc (.cells #[] 3) := ⟨_, rfl⟩
              rw [← hWA] at hC1 r3 ⊢
              rw [← hG] at r3 ⊢
              have hl3 : g3 < wN.heap.size := by rw [hWA, hG]; simp
              clear hC0 hwa hCa hsz hG hWA
              have hC0 := hC1
              clear hC1
              (refine wpAnyG_two (i := 5) (k := 7) (by kernel_rfl) rfl rfl (by rfl) (by rfl) (fun wa hwa K hK => ?_) (fun wa hwa K hK => ?_))
              ·
                have hCa := hCC _ _ hC0 hwa
                replace r3 := owns_below r3 hwa
                refine wp_append_gen (.tmp 60) (.tmp 61) 37 rfl wr.heap.size 3 iR _ 1 8 Tryd.underlying37 hiR hzR0 hzR1 hzR2 rfl (by omega) (.slice (some ⟨g3, 0, none⟩) 0 0) 0 [] rfl r3 lo ℓ lc (intNews ℓ (fun j => ((L.getD j 0 : Nat) : Int))) rfl HNIL.out (by simp [intNews]) (fun ad9 e9 => HNW.out _ ad9 hCa e9) news_one (by simp only [maxLen]; omega) (by omega) hCa.size (fun vS wS hownS hgrowS => ?_)
                have hC1 : Below wr.heap.size wr wS := below_grown hCa r3 hgrowS
                rw [List.nil_append, Nat.zero_add] at hownS
                clear r3 hgrowS hCa hwa hC0
                obtain ⟨o5, c5, rfl, -⟩ := owns_form hownS
                go_simp
                refine hK _ _ hC1 ?_
                clear hK K
                have hC0 := hC1
                have r5 := hownS
                clear hC1 hownS
                (refine wpAnyG_one (i := 7) (by kernel_rfl) rfl (by rfl) (fun wa hwa K hK => ?_))
                go_simp
                have hCa := hCC _ _ hC0 hwa
                replace r5 := owns_below (owns_below r5 hwa) (below_alloc1 wa (.cells #[.int .i64 (i : Nat)] 3))
                have hC1 := hCa.alloc (by have := hCa.size; omega) (.cells #[.int .i64 (i : Nat)] 3)
                refine hK _ _ hC1 ?_
                clear hK K
                have hsz := hCa.size
                have z7 := Box.new (g := wa.heap.size) #[.int .i64 (i : Nat)] 3 wa rfl
                obtain ⟨g7, hG⟩ : ∃ G, G = wa.heap.size := ⟨_, rfl⟩
                obtain ⟨wN, hWA⟩ : ∃ X, X = wa.alloc (.cells #[.int .i64 (i : Nat)] 3) := ⟨_, rfl⟩
                rw [← hWA] at hC1 z7 r5 ⊢
                rw [← hG] at z7 ⊢
                clear hC0 hwa hCa hsz hG hWA
                have hC0 := hC1
                clear hC1
                (refine wpAnyG_one (i := 8) (by kernel_rfl) rfl (by rfl) (fun wa hwa K hK => ?_))
                have hCa := hCC _ _ hC0 hwa
                replace r5 := owns_below r5 hwa
                replace z7 := z7.below hwa
                refine wp_append_gen (.tmp 62) (.tmp 64) 37 rfl wr.heap.size 3 iR _ 1 8 Tryd.underlying37 hiR hzR0 hzR1 hzR2 rfl (by omega) (.slice o5 ℓ c5) ℓ (intNews ℓ (fun j => ((L.getD j 0 : Nat) : Int))) rfl r5 (some ⟨g7, 0, none⟩) 1 1 [.int .i64 (i : Nat)] rfl (fun e9 => by cases e9) rfl (fun ad9 e9 j9 u9 hu9 => by cases e9; rw [add_flat, Nat.zero_add]; exact z7.cell j9 (by rw [List.getElem?_toArray]; exact hu9)) (by simp [Value.oneCell']) (by simp only [maxLen]; omega) (by omega) hCa.size (fun vS wS hownS hgrowS => ?_)
                have hC1 : Below wr.heap.size wr wS := below_grown hCa r5 hgrowS
                rw [HSN.out i] at hownS
                clear r5 z7 hgrowS hCa hwa hC0
                obtain ⟨o8, c8, rfl, hI8, -⟩ := owns_ints hownS
                go_simp
                refine hK _ _ hC1 ?_
                clear hK K hownS
                (refine wpAnyG_one (i := 9) (by kernel_rfl) rfl (by rfl) (fun wp hwp K hK => ?_))
                go_simp
                have hC2 := hCC _ _ hC1 hwp
                refine (HIH.out wp o8 c8 hC2 (hI8.mono hwp)).mono ?_
                intro e w2 hp
                obtain ⟨hb2, hp⟩ := hp
                have hC3 := hCC _ _ hC2 hb2
                clear hI8 hC1 hC2 hwp hb2
                rcases hp with ⟨hci, rfl⟩ | ⟨M, ma, mc, hci, rfl, hIM⟩
                · refine hK _ _ hC3 ?_
                  clear hK K
                  (refine wpAnyG_one (i := 10) (by kernel_rfl) rfl (by rfl) (fun wq hwq K hK => ?_))
                  go_simp
                  have hC4 := hCC _ _ hC3 hwq
                  refine hK _ _ hC4 ?_
                  clear hK K
                  refine wpAnyG_done (by kernel_rfl) (fun wz hwz => ?_) _
                  go_wp2_with fail
                  go_meet
                  exact ⟨hCC _ _ hC4 hwz, .inl ⟨hci, rfl⟩⟩
                · refine hK _ _ hC3 ?_
                  clear hK K
                  (refine wpAnyG_one (i := 10) (by kernel_rfl) rfl (by rfl) (fun wq hwq K hK => ?_))
                  go_simp
                  have hC4 := hCC _ _ hC3 hwq
                  refine hK _ _ hC4 ?_
                  clear hK K
                  refine wpAnyG_done (by kernel_rfl) (fun wz hwz => ?_) _
                  go_wp2_with fail
                  go_meet
                  exact ⟨hCC _ _ hC4 hwz, .inr ⟨M, ma, mc, hci, rfl, (hIM.mono hwq).mono hwz⟩⟩
              ·
                go_simp
                have hCa := hCC _ _ hC0 hwa
                replace r3 := owns_below (owns_below r3 hwa) (below_alloc1 wa (.cells #[.int .i64 (i : Nat)] 3))
                have hC1 := hCa.alloc (by have := hCa.size; omega) (.cells #[.int .i64 (i : Nat)] 3)
                refine hK _ _ hC1 ?_
                clear hK K
                have hsz := hCa.size
                have z7 := Box.new (g := wa.heap.size) #[.int .i64 (i : Nat)] 3 wa rfl
                have n37 : g3 ≠ wa.heap.size := by have := hl3; have := hwa.size; omega
                obtain ⟨g7, hG⟩ : ∃ G, G = wa.heap.size := ⟨_, rfl⟩
                obtain ⟨wN, hWA⟩ : ∃ X, X = wa.alloc (.cells #[.int .i64 (i : Nat)] 3) := ⟨_, rfl⟩
                rw [← hWA] at hC1 z7 r3 ⊢
                rw [← hG] at z7 n37 ⊢
                clear hC0 hwa hCa hsz hG hWA hl3
                have hC0 := hC1
                clear hC1
                (refine wpAnyG_one (i := 5) (by kernel_rfl) rfl (by rfl) (fun wa hwa K hK => ?_))
                have hCa := hCC _ _ hC0 hwa
                replace r3 := owns_below r3 hwa
                replace z7 := z7.below hwa
                refine wp_append_gen (.tmp 60) (.tmp 61) 37 rfl wr.heap.size 3 iR _ 1 8 Tryd.underlying37 hiR hzR0 hzR1 hzR2 rfl (by omega) (.slice (some ⟨g3, 0, none⟩) 0 0) 0 [] rfl r3 lo ℓ lc (intNews ℓ (fun j => ((L.getD j 0 : Nat) : Int))) rfl HNIL.out (by simp [intNews]) (fun ad9 e9 => HNW.out _ ad9 hCa e9) news_one (by simp only [maxLen]; omega) (by omega) hCa.size (fun vS wS hownS hgrowS => ?_)
                have hC1 : Below wr.heap.size wr wS := below_grown hCa r3 hgrowS
                replace z7 : Box g7 #[.int .i64 (i : Nat)] 3 wS := ⟨heap_grown hgrowS z7.lt (fun e9 => n37 (Option.some.inj e9).symm) z7.row⟩
                rw [List.nil_append, Nat.zero_add] at hownS
                clear r3 hgrowS hCa hwa hC0
                obtain ⟨o5, c5, rfl, -⟩ := owns_form hownS
                go_simp
                refine hK _ _ hC1 ?_
                clear hK K
                have hC0 := hC1
                have r5 := hownS
                clear hC1 hownS
                (refine wpAnyG_one (i := 8) (by kernel_rfl) rfl (by rfl) (fun wa hwa K hK => ?_))
                have hCa := hCC _ _ hC0 hwa
                replace r5 := owns_below r5 hwa
                replace z7 := z7.below hwa
                refine wp_append_gen (.tmp 62) (.tmp 64) 37 rfl wr.heap.size 3 iR _ 1 8 Tryd.underlying37 hiR hzR0 hzR1 hzR2 rfl (by omega) (.slice o5 ℓ c5) ℓ (intNews ℓ (fun j => ((L.getD j 0 : Nat) : Int))) rfl r5 (some ⟨g7, 0, none⟩) 1 1 [.int .i64 (i : Nat)] rfl (fun e9 => by cases e9) rfl (fun ad9 e9 j9 u9 hu9 => by cases e9; rw [add_flat, Nat.zero_add]; exact z7.cell j9 (by rw [List.getElem?_toArray]; exact hu9)) (by simp [Value.oneCell']) (by simp only [maxLen]; omega) (by omega) hCa.size (fun vS wS hownS hgrowS => ?_)
                have hC1 : Below wr.heap.size wr wS := below_grown hCa r5 hgrowS
                rw [HSN.out i] at hownS
                clear r5 z7 hgrowS hCa hwa hC0
                obtain ⟨o8, c8, rfl, hI8, -⟩ := owns_ints hownS
                go_simp
                refine hK _ _ hC1 ?_
                clear hK K hownS
                (refine wpAnyG_one (i := 9) (by kernel_rfl) rfl (by rfl) (fun wp hwp K hK => ?_))
                go_simp
                have hC2 := hCC _ _ hC1 hwp
                refine (HIH.out wp o8 c8 hC2 (hI8.mono hwp)).mono ?_
                intro e w2 hp
                obtain ⟨hb2, hp⟩ := hp
                have hC3 := hCC _ _ hC2 hb2
                clear hI8 hC1 hC2 hwp hb2
                rcases hp with ⟨hci, rfl⟩ | ⟨M, ma, mc, hci, rfl, hIM⟩
                · refine hK _ _ hC3 ?_
                  clear hK K
                  (refine wpAnyG_one (i := 10) (by kernel_rfl) rfl (by rfl) (fun wq hwq K hK => ?_))
                  go_simp
                  have hC4 := hCC _ _ hC3 hwq
                  refine hK _ _ hC4 ?_
                  clear hK K
                  refine wpAnyG_done (by kernel_rfl) (fun wz hwz => ?_) _
                  go_wp2_with fail
                  go_meet
                  exact ⟨hCC _ _ hC4 hwz, .inl ⟨hci, rfl⟩⟩
                · refine hK _ _ hC3 ?_
                  clear hK K
                  (refine wpAnyG_one (i := 10) (by kernel_rfl) rfl (by rfl) (fun wq hwq K hK => ?_))
                  go_simp
                  have hC4 := hCC _ _ hC3 hwq
                  refine hK _ _ hC4 ?_
                  clear hK K
                  refine wpAnyG_done (by kernel_rfl) (fun wz hwz => ?_) _
                  go_wp2_with fail
                  go_meet
                  exact ⟨hCC _ _ hC4 hwz, .inr ⟨M, ma, mc, hci, rfl, (hIM.mono hwq).mono hwz⟩⟩
            ·
              go_simp
              have hCa := hCC _ _ hC0 hwa
              have hC1 := hCa.alloc (by have := hCa.size; omega) (.cells #[.int .i64 (i : Nat)] 3)
              refine hK _ _ hC1 ?_
              clear hK K
              have hsz := hCa.size
              have z7 := Box.new (g := wa.heap.size) #[.int .i64 (i : Nat)] 3 wa rfl
              obtain ⟨g7, hG⟩ : ∃ G, G = wa.heap.size := ⟨_, rfl⟩
              obtain ⟨wN, hWA⟩ : ∃ X, X = wa.alloc (.cells #[.int .i64 (i : Nat)] 3) := ⟨_, rfl⟩
              rw [← hWA] at hC1 z7 ⊢
              rw [← hG] at z7 ⊢
              clear hC0 hwa hCa hsz hG hWA
              have hC0 := hC1
              clear hC1
              (refine wpAnyG_one (i := 3) (by kernel_rfl) rfl (by rfl) (fun wa hwa K hK => ?_))
              go_simp
              have hCa := hCC _ _ hC0 hwa
              have z7k := z7
              replace z7 := (z7.below hwa).old (.cells #[] 3)
              have hC1 := hCa.alloc (by have := hCa.size; omega) (.cells #[] 3)
              refine hK _ _ hC1 ?_
              clear hK K
              have hsz := hCa.size
              have r3 : (wa.alloc (.cells #[] 3)).ownsRow wr.heap.size 3 1 (.slice (some ⟨wa.heap.size, 0, none⟩) 0 0) 0 [] := owns_empty hsz (heap_new rfl)
              have n37 : wa.heap.size ≠ g7 := by have := (z7k.below hwa).lt; omega
              obtain ⟨g3, hG⟩ : ∃ G, G = wa.heap.size := ⟨_, rfl⟩
              obtain ⟨wN, hWA⟩ : ∃ X, X = wa.alloc (.cells #[] 3) := ⟨_, rfl⟩
              rw [← hWA] at hC1 r3 z7 ⊢
              rw [← hG] at r3 n37 ⊢
              have hl3 : g3 < wN.heap.size := by rw [hWA, hG]; simp
              clear hC0 hwa hCa hsz hG hWA z7k
              have hC0 := hC1
              clear hC1
              (refine wpAnyG_one (i := 5) (by kernel_rfl) rfl (by rfl) (fun wa hwa K hK => ?_))
              have hCa := hCC _ _ hC0 hwa
              replace r3 := owns_below r3 hwa
              replace z7 := z7.below hwa
              refine wp_append_gen (.tmp 60) (.tmp 61) 37 rfl wr.heap.size 3 iR _ 1 8 Tryd.underlying37 hiR hzR0 hzR1 hzR2 rfl (by omega) (.slice (some ⟨g3, 0, none⟩) 0 0) 0 [] rfl r3 lo ℓ lc (intNews ℓ (fun j => ((L.getD j 0 : Nat) : Int))) rfl HNIL.out (by simp [intNews]) (fun ad9 e9 => HNW.out _ ad9 hCa e9) news_one (by simp only [maxLen]; omega) (by omega) hCa.size (fun vS wS hownS hgrowS => ?_)
              have hC1 : Below wr.heap.size wr wS := below_grown hCa r3 hgrowS
              replace z7 : Box g7 #[.int .i64 (i : Nat)] 3 wS := ⟨heap_grown hgrowS z7.lt (fun e9 => n37 (Option.some.inj e9).symm) z7.row⟩
              rw [List.nil_append, Nat.zero_add] at hownS
              clear r3 hgrowS hCa hwa hC0
              obtain ⟨o5, c5, rfl, -⟩ := owns_form hownS
              go_simp
              refine hK _ _ hC1 ?_
              clear hK K
              have hC0 := hC1
              have r5 := hownS
              clear hC1 hownS
              (refine wpAnyG_one (i := 8) (by kernel_rfl) rfl (by rfl) (fun wa hwa K hK => ?_))
              have hCa := hCC _ _ hC0 hwa
              replace r5 := owns_below r5 hwa
              replace z7 := z7.below hwa
              refine wp_append_gen (.tmp 62) (.tmp 64) 37 rfl wr.heap.size 3 iR _ 1 8 Tryd.underlying37 hiR hzR0 hzR1 hzR2 rfl (by omega) (.slice o5 ℓ c5) ℓ (intNews ℓ (fun j => ((L.getD j 0 : Nat) : Int))) rfl r5 (some ⟨g7, 0, none⟩) 1 1 [.int .i64 (i : Nat)] rfl (fun e9 => by cases e9) rfl (fun ad9 e9 j9 u9 hu9 => by cases e9; rw [add_flat, Nat.zero_add]; exact z7.cell j9 (by rw [List.getElem?_toArray]; exact hu9)) (by simp [Value.oneCell']) (by simp only [maxLen]; omega) (by omega) hCa.size (fun vS wS hownS hgrowS => ?_)
              have hC1 : Below wr.heap.size wr wS := below_grown hCa r5 hgrowS
              rw [HSN.out i] at hownS
              clear r5 z7 hgrowS hCa hwa hC0
              obtain ⟨o8, c8, rfl, hI8, -⟩ := owns_ints hownS
              go_simp
              refine hK _ _ hC1 ?_
              clear hK K hownS
              (refine wpAnyG_one (i := 9) (by kernel_rfl) rfl (by rfl) (fun wp hwp K hK => ?_))
              go_simp
              have hC2 := hCC _ _ hC1 hwp
              refine (HIH.out wp o8 c8 hC2 (hI8.mono hwp)).mono ?_
              intro e w2 hp
              obtain ⟨hb2, hp⟩ := hp
              have hC3 := hCC _ _ hC2 hb2
              clear hI8 hC1 hC2 hwp hb2
              rcases hp with ⟨hci, rfl⟩ | ⟨M, ma, mc, hci, rfl, hIM⟩
              · refine hK _ _ hC3 ?_
                clear hK K
                (refine wpAnyG_one (i := 10) (by kernel_rfl) rfl (by rfl) (fun wq hwq K hK => ?_))
                go_simp
                have hC4 := hCC _ _ hC3 hwq
                refine hK _ _ hC4 ?_
                clear hK K
                refine wpAnyG_done (by kernel_rfl) (fun wz hwz => ?_) _
                go_wp2_with fail
                go_meet
                exact ⟨hCC _ _ hC4 hwz, .inl ⟨hci, rfl⟩⟩
              · refine hK _ _ hC3 ?_
                clear hK K
                (refine wpAnyG_one (i := 10) (by kernel_rfl) rfl (by rfl) (fun wq hwq K hK => ?_))
                go_simp
                have hC4 := hCC _ _ hC3 hwq
                refine hK _ _ hC4 ?_
                clear hK K
                refine wpAnyG_done (by kernel_rfl) (fun wz hwz => ?_) _
                go_wp2_with fail
                go_meet
                exact ⟨hCC _ _ hC4 hwz, .inr ⟨M, ma, mc, hci, rfl, (hIM.mono hwq).mono hwz⟩⟩
        case rest =>
          obtain ⟨hbz, hcz⟩ := hcut
          have HL2 := Lib.hid (HL.out.trans (hbz.mono HL.out.size))
          have HB2 := Lib.hid (HB.out.below hbz)
          clear hbz HIH HNW
          rcases hcz with ⟨hci, rfl⟩ | ⟨M, ma, mc, hci, rfl, hIM⟩
          · have HCN2 := Lib.hid (HCN.out.next hci)
            clear hci HCN
            go_wp2_with fail
            go_roundw
            case rel => exact ⟨i + 1, by omega, by omega, by go_num, HCN2, HL2, HB2⟩
            case measure => simp [intOf]; omega
          · have HP := Lib.hid (show ChPost r off (k + 1) L w (.returned (.slice (some ma) M.length mc)) _ from ⟨HL2.out, .inr ⟨M, ma, mc, HCN.out.found hci, rfl, hIM⟩⟩)
            clear hci HCN hIM
            go_wp2_with fail
            go_ret
            exact HP.out
      · obtain rfl : i = r.n := by omega
        have HP := Lib.hid (show ChPost r off (k + 1) L w (.returned (.slice none 0 0)) wr from ⟨HL.out, .inl ⟨HCN.out.none (Nat.le_refl _), rfl⟩⟩)
        go_wp2_with fail
        go_ret
        exact HP.out
theorem choose_any (r : Rnd) (oa : Option Addr) (ca : Nat) (off : Int) (many : Nat) (hv : r.valid = true) (hm1 : 1 ≤ many) (hmany : many ≤ 14) : ∀ (k : Nat) (L : List Nat) (lo : Option Addr) (lc : Nat) (w : World), GoodL r.n L → L.length + k = many → IntsAt w lo L.length (fun i => ((L.getD i 0 : Nat) : Int)) → (lo = none → L.length = 0 ∧ lc = 0) → TrpsAt w oa r.n r.t →
    Calls Tryd.prog 48 #[r.val oa ca, .int .i64 off, .int .i64 (many : Nat), .slice lo L.length lc] w (ChPost r off k L w)
  | 0, L, lo, lc, w, hg, hm, hI, _, hA => by
    have e : L.length = many := by omega
    rw [e] at hI ⊢
    exact choose_leaf r oa ca off lo lc many L w hv hg e hm1 hI hA
  | k + 1, L, lo, lc, w, hg, hm, hI, hn, hA => choose_step r oa ca off many k hv hmany (fun L lo lc w => choose_any r oa ca off many hv hm1 hmany k L lo lc w) L lo lc w hg hm hI hn hA
end Go.Proofs.YtldodmfmibeoiaaDoor
