/- Zone: fall. -/
import Derived.Test.YtipnaeijbbbdoaaW7
import Derived.LoopN
namespace Go.Proofs.Ytipnaeijbbbdoaa
open Go.RowKit
theorem Und.tri {z : Nat → Zon} {a b j : Nat} (h1 : Und z a j) (h2 : Und z b j) : Und z a b ∨ Und z b a := by
  induction h1 with
  | refl => exact .inr h2
  | @up j c hp hu ih =>
    cases h2 with
    | refl => exact .inl (.up hp hu)
    | @up _ d hp2 hu2 =>
      have e : c = d := by rw [hp] at hp2; omega
      subst e
      exact ih hu2
/-- what is below two parts of one zone -/
theorem Und.kids {z : Nat → Zon} {n : Nat} (hz : Tree z n) {i a b j : Nat} (ha : a ∈ kidsTo z i n) (hb : b ∈ kidsTo z i n) (h1 : Und z a j) (h2 : Und z b j) : a = b := by
  have key : ∀ a b, a ∈ kidsTo z i n → b ∈ kidsTo z i n → Und z a b → a = b := fun a b ha hb h => by
    have ka := kid_gt hz ha
    have kb := kid_gt hz hb
    cases h with
    | refl => rfl
    | @up _ c hp hu =>
      have e : c = i := by rw [kb.2.2] at hp; omega
      subst e
      have := hu.le hz (by omega)
      omega
  rcases h1.tri h2 with h | h
  · exact key a b ha hb h
  · exact (key b a hb ha h).symm
theorem not_und_parent {z : Nat → Zon} {n : Nat} (hz : Tree z n) {i c : Nat} (hi : i < n) (hc : c ∈ kidsTo z i n) : ¬ Und z c i := fun h => by
  have := kid_gt hz hc
  have := h.le hz hi
  omega
theorem kidsTo_nodup (z : Nat → Zon) (q : Int) (n : Nat) : (kidsTo z q n).Nodup := List.nodup_range.filter _
theorem kids_take {z : Nat → Zon} {n : Nat} (hz : Tree z n) {i m : Nat} (hm : m < (kidsTo z i n).length) {j : Nat} (hu : Und z ((kidsTo z i n).getD m 0) j) : ∀ c ∈ (kidsTo z i n).take m, ¬ Und z c j := fun c hc h => by
  have hx : (kidsTo z i n).getD m 0 ∈ kidsTo z i n := by rw [List.getD_eq_getElem?_getD, List.getElem?_eq_getElem hm]; exact List.getElem_mem hm
  have e := Und.kids hz (List.mem_of_mem_take hc) hx h hu
  have h1 : (kidsTo z i n).take (m + 1) = (kidsTo z i n).take m ++ [(kidsTo z i n).getD m 0] := by
    rw [List.take_add_one]; congr 1
    have : (kidsTo z i n)[m]? = some ((kidsTo z i n).getD m 0) := by rw [List.getD_eq_getElem?_getD, List.getElem?_eq_getElem hm]; rfl
    rw [this]; rfl
  have h2 : ((kidsTo z i n).take (m + 1)).Nodup := (kidsTo_nodup z i n).sublist (List.take_sublist _ _)
  rw [h1, List.nodup_append] at h2
  exact h2.2.2 c hc _ (by simp) e
/-- what from leaves -/
def FallP (oa : Option Addr) (n ca : Nat) (z : Nat → Zon) (gt i : Nat) (T : Nat → Spn) (W : World) (e : Ending) (w' : World) : Prop :=
  (∃ v, e = .returned v) ∧ ∃ T', Box gt (towC (.slice oa n ca) T') 66 w' ∧ Same (· ≠ gt) W w' ∧ (∀ j, j < n → Und z i j → T' j = dnF z n j) ∧ (∀ j, ¬ Und z i j → T' j = T j)
set_option maxRecDepth 100000 in
set_option maxHeartbeats 8000000 in
theorem from_any (oa : Option Addr) (n ca : Nat) (z : Nat → Zon) (w : World) (gt bt bf : Nat) (hA : ZonsAt w oa n z) (hn : n ≤ 12) (hz : Tree z n) (hok : ∀ i, i < n → (z i).ok) (hall : ∀ i, i < n → (rs z n i).isSome = true) (hg : w.heap.size ≤ gt) (hgb : gt ≠ bt ∧ gt ≠ bf) :
    ∀ (k i : Nat), i < n → n - i ≤ k → ∀ (T : Nat → Spn) (W : World), Below w.heap.size w W → Box gt (towC (.slice oa n ca) T) 66 W → Box bt #[.pointer (some ⟨gt, 0, none⟩)] 63 W → Box bf #[.func (.func 62) #[] #[.pointer (some ⟨bt, 0, none⟩), .pointer (some ⟨bf, 0, none⟩)]] 101 W →
      T i = dnF z n i → (∀ j, j < n → Und z i j → j ≠ i → T j = S z n j) →
      Calls Try.prog 62 #[.int .i64 i, .pointer (some ⟨bt, 0, none⟩), .pointer (some ⟨bf, 0, none⟩)] W (FallP oa n ca z gt i T W) := by
  intro k
  induction k with
  | zero => intro i hi h; omega
  | succ k ih =>
    intro i hi hk T W hlow hbx hbt hbf hTi hTj
    have IH := Lib.hid (show ∀ c, c ∈ kidsTo z i n → ∀ (T : Nat → Spn) (W : World), Below w.heap.size w W → Box gt (towC (.slice oa n ca) T) 66 W → Box bt #[.pointer (some ⟨gt, 0, none⟩)] 63 W → Box bf #[.func (.func 62) #[] #[.pointer (some ⟨bt, 0, none⟩), .pointer (some ⟨bf, 0, none⟩)]] 101 W →
      T c = dnF z n c → (∀ j, j < n → Und z c j → j ≠ c → T j = S z n j) → Calls Try.prog 62 #[.int .i64 c, .pointer (some ⟨bt, 0, none⟩), .pointer (some ⟨bf, 0, none⟩)] W (FallP oa n ca z gt c T W) from fun c hc => by
      have := kid_gt hz hc
      exact ih c (by omega) (by omega))
    have HA := Lib.hid hA
    have HZ := Lib.hid hz
    have HG := Lib.hid hg
    have HGB0 := Lib.hid hgb
    have HL := Lib.hid hlow
    have HBX := Lib.hid hbx
    have HBT := Lib.hid hbt
    have HBF := Lib.hid hbf
    have HTI := Lib.hid hTi
    have HTJ := Lib.hid (show ∀ c, c ∈ kidsTo z i n → T c = S z n c from fun c hc => by
      have h9 := kid_gt hz hc
      exact hTj c h9.2.1 (Und.kid hc) (by omega))
    have HTU := Lib.hid hTj
    have HD := Lib.hid (fun c (hc : c < n) => dnF_in hz hall c hc)
    have HSB := Lib.hid (show ∀ c, c < n → 0 ≤ (S z n c).lo ∧ (S z n c).lo ≤ (S z n c).hi ∧ (S z n c).hi ≤ 1073741824 from fun c hc => by
      have h1 := S_in hz hc (hall c hc)
      have h2 := Zon.own_bd (hok c hc)
      omega)
    have HDK := Lib.hid (show ∀ c, c ∈ kidsTo z i n → dnF z n c = cutS (S z n c) ((dnF z n i).lo - (sumL (fun c => (S z n c).hi) (kidsTo z i n) - (S z n c).hi)) ((dnF z n i).hi - (sumL (fun c => (S z n c).lo) (kidsTo z i n) - (S z n c).lo)) from fun c hc => dnF_kid hz (kid_gt hz hc).2.1 (kid_gt hz hc).2.2)
    have HKD := Lib.hid (show ∀ c, c ∈ kidsTo z i n → (dnF z n c).lo ≤ (dnF z n c).hi from fun c hc => (dnF_in hz hall c (kid_gt hz hc).2.1).2.1)
    clear ih hA hz hg hgb hlow hbx hbt hbf hk hTi hTj hall hok
    have c1 := HBT.out.cell 0 (v := .pointer (some ⟨gt, 0, none⟩)) rfl
    go_enter Try.func62, Try.ntmps62
    go_wp2_with fail
    refine (parts_any gt (i : Int) _).mono ?_
    rintro e X1 ⟨rfl, hX1⟩
    have hb1 := (below_alloc1 W (.cells #[.pointer (some ⟨gt, 0, none⟩)] 63)).alloc (by simp) (.cells #[.int .i64 i] 3)
    have hB7 := (Box.new (g := W.heap.size) #[.pointer (some ⟨gt, 0, none⟩)] 63 W rfl).old (.cells #[.int .i64 i] 3)
    have hB8 := Box.new (g := W.heap.size + 1) #[.int .i64 i] 3 (W.alloc (.cells #[.pointer (some ⟨gt, 0, none⟩)] 63)) (by simp)
    rw [← hX1] at hb1 hB7 hB8
    have HCO := Lib.hid (collect_any oa n ca z (i : Int) gt W.heap.size (W.heap.size + 1) (towC (.slice oa n ca) T) w X1 HA.out hn (HL.out.trans (hb1.mono HL.out.size)) hB7 hB8 (HBX.out.below hb1) rfl)
    have HX1 := Lib.hid hb1
    clear hX1 hb1 hB7 hB8 c1
    go_wp2_with fail
    refine HCO.out.mono ?_
    rintro e X2 ⟨⟨oK, cK, rfl, hIN, hkb⟩, hb2⟩
    have HKB := Lib.hid (show ∀ a, oK = some a → a.block ≠ gt from fun a ha => by have h1 := hkb a ha; have h2 := HX1.out.size; have h3 := HBX.out.lt; omega)
    clear hkb
    clear HCO
    have HW2 := Lib.hid (HX1.out.trans (hb2.mono HX1.out.size))
    have HIN := Lib.hid hIN
    clear hIN hb2 HX1 X1
    replace HBX := Lib.hid (HBX.out.below HW2.out)
    replace HBT := Lib.hid (HBT.out.below HW2.out)
    replace HBF := Lib.hid (HBF.out.below HW2.out)
    replace HL := Lib.hid (HL.out.trans (HW2.out.mono HL.out.size))
    have hm12 : (kidsTo z i n).length ≤ n := kidsTo_len z i n
    have HMEM := Lib.hid (show ∀ m, m < (kidsTo z i n).length → (kidsTo z i n).getD m 0 ∈ kidsTo z i n from fun m hm => by
      rw [List.getD_eq_getElem?_getD, List.getElem?_eq_getElem hm]; exact List.getElem_mem hm)
    have HXLT := Lib.hid (show ∀ m, m < (kidsTo z i n).length → i < (kidsTo z i n).getD m 0 ∧ (kidsTo z i n).getD m 0 < n from fun m hm => by
      have := kid_gt HZ.out (HMEM.out m hm); omega)
    have HTAKE := Lib.hid (show ∀ m, m < (kidsTo z i n).length → (kidsTo z i n).take (m + 1) = (kidsTo z i n).take m ++ [(kidsTo z i n).getD m 0] from fun m hm => by
      rw [List.take_add_one]; congr 1
      have : (kidsTo z i n)[m]? = some ((kidsTo z i n).getD m 0) := by rw [List.getD_eq_getElem?_getD, List.getElem?_eq_getElem hm]; rfl
      rw [this]; rfl)
    have HNU := Lib.hid (fun (m : Nat) (hm : m < (kidsTo z i n).length) (j : Nat) (hu : Und z ((kidsTo z i n).getD m 0) j) => kids_take HZ.out hm hu)
    have HTALL := Lib.hid (show (kidsTo z i n).take (kidsTo z i n).length = kidsTo z i n from List.take_length)
    have HSL := Lib.hid (sumN_sumL (fun c => (S z n c).lo) (kidsTo z i n))
    have HSH := Lib.hid (sumN_sumL (fun c => (S z n c).hi) (kidsTo z i n))
    obtain ⟨iR, hiR, hzR0, hzR1, hzR2⟩ := info_parts (P := Try.prog) (e := 41) (z := .agg #[.int .i64 0, .int .i64 0]) (size := 2) (bytes := 16) (by kernel_rfl)
    have HIR := Lib.hid hiR
    have HZR := Lib.hid (And.intro hzR0 (And.intro hzR1 hzR2))
    clear hiR hzR0 hzR1 hzR2
    obtain ⟨K, hK⟩ : ∃ K, K = (kidsTo z i n).length := ⟨_, rfl⟩
    rw [← hK] at HMEM HXLT HTAKE HTALL HSL HSH HNU hm12 HIN ⊢
    clear hK
    go_wp2_with fail
    go_loopw [5, 18] (fun v5 v18 wr => ∃ m : Nat, m ≤ K ∧ v18 = .int .i64 m ∧ Hid (wr.ownsRow X2.heap.size 41 2 v5 m (spanNews m (fun j => S z n ((kidsTo z i n).getD j 0)))) ∧ Hid (Below X2.heap.size X2 wr)) (fun _ v18 _ => K - (intOf v18).toNat)
    case atStart => exact ⟨0, Nat.zero_le _, rfl, Lib.hid owns_none, Lib.hid (Below.refl _ _)⟩
    case round =>
      obtain ⟨m, hm, rfl, HOW, HLR⟩ := hrel
      by_cases hlt : m < K
      · have hx := HXLT.out m hlt
        have HTX := Lib.hid (HTJ.out _ (HMEM.out m hlt))
        obtain ⟨kb, ko, rfl, hkl, hkc⟩ := (HIN.out.mono HLR.out) m hlt
        replace hkc : wr.cell? ⟨kb, ko + m, none⟩ = some (.int .i64 (((kidsTo z i n).getD m 0 : Nat) : Int)) := hkc
        have HSN := Lib.hid (show spanNews m (fun j => S z n ((kidsTo z i n).getD j 0)) ++ [.int .i64 (S z n ((kidsTo z i n).getD m 0)).lo, .int .i64 (S z n ((kidsTo z i n).getD m 0)).hi] = spanNews (m + 1) (fun j => S z n ((kidsTo z i n).getD j 0)) from (pair_news_succ _ _ _).symm)
        have hown := HOW.out
        obtain ⟨oL, cL, rfl, -⟩ := owns_form hown
        obtain ⟨xs, hxs⟩ : ∃ l, l = spanNews m (fun j => S z n ((kidsTo z i n).getD j 0)) := ⟨_, rfl⟩
        obtain ⟨ys, hys⟩ : ∃ l, l = spanNews (m + 1) (fun j => S z n ((kidsTo z i n).getD j 0)) := ⟨_, rfl⟩
        rw [← hxs] at hown HOW HSN
        rw [← hys] at HSN
        have HYS := Lib.hid hys
        clear hxs hys
        obtain ⟨x, hxx⟩ : ∃ x, x = (kidsTo z i n).getD m 0 := ⟨_, rfl⟩
        rw [← hxx] at hx HTX hkc HSN
        clear hxx
        obtain ⟨sx, hsx⟩ : ∃ s, s = S z n x := ⟨_, rfl⟩
        rw [← hsx] at HTX HSN
        clear hsx
        obtain ⟨sl, sh⟩ := sx
        simp only at HSN
        have hxx0 : (0 : Int) ≤ (x : Int) := by omega
        have hxx1 : (x : Int) < 12 := by omega
        have hm0 : (0 : Int) ≤ (m : Int) := by omega
        have hm1 : (m : Int) < (K : Int) := by omega
        have gl := (HBX.out.below HLR.out).cell (1 + x * 2) (v := .int .i64 sl) (by rw [towC_lo (by omega), HTX.out])
        have gh := (HBX.out.below HLR.out).cell (1 + x * 2 + 1) (v := .int .i64 sh) (by rw [towC_hi (by omega), HTX.out])
        have glt := (HBX.out.below HLR.out).lt
        have tl := (HBT.out.below HLR.out).cell 0 (v := .pointer (some ⟨gt, 0, none⟩)) rfl
        have hwsz := HLR.out.size
        have HOW9 := Lib.hid hown
        clear hown HOW hlt
        go_wp2_with (at_builtin; refine wpList_append_gen rfl (.tmp 22) (.tmp 29) _ rfl X2.heap.size 41 iR _ 2 16 Try.underlying24 HIR.out HZR.out.1 HZR.out.2.1 HZR.out.2.2 rfl (by omega) (.slice oL m cL) m xs rfl (some ⟨wr.heap.size, 0, none⟩) 1 1 [.int .i64 sl, .int .i64 sh] rfl (HOW9.out.alloc _) (fun e9 => by cases e9) rfl (fun ad9 e9 j9 u9 hu9 => by cases e9; exact news_blk2 (e := 41) (heap_new rfl) hu9) (by simp [Value.oneCell']) (by simp only [maxLen]; omega) (by omega) (by simp; omega) ?_; intro vS wS hownS hgrowS)
        have hbS : Below X2.heap.size X2 wS := (HLR.out.alloc HLR.out.size _).trans (below_row HOW9.out hgrowS HLR.out.size)
        rw [HSN.out, HYS.out] at hownS
        have HO2 := Lib.hid hownS
        have HL2 := Lib.hid hbS
        clear hownS hbS hgrowS gl gh glt tl hkc hkl
        go_wp2_with fail
        go_roundw
        case rel => exact ⟨m + 1, by omega, by go_num, HO2, HL2⟩
        case measure => simp [intOf]; omega
      · obtain rfl : m = K := by omega
        obtain ⟨oL, cL, rfl, hsp, hba⟩ := owns_spans HOW.out
        have HLB2 := Lib.hid (show ∀ a, oL = some a → a.block ≠ gt from fun a ha => by have h1 := hba a ha; have h3 := HBX.out.lt; omega)
        clear hba
        have HSP := Lib.hid hsp
        have SA := Lib.hid (sum_any oL m cL (fun j => S z n ((kidsTo z i n).getD j 0)) wr (by omega) (fun j hj => HSB.out _ (HXLT.out j hj).2) hsp)
        rw [HSL.out, HSH.out] at SA
        have HLB := Lib.hid (sumL_bd (f := fun c => (S z n c).lo) (B := 1073741824) (l := kidsTo z i n) fun c hc => by have := HSB.out c (kid_gt HZ.out hc).2.1; omega)
        have HHB := Lib.hid (sumL_bd (f := fun c => (S z n c).hi) (B := 1073741824) (l := kidsTo z i n) fun c hc => by have := HSB.out c (kid_gt HZ.out hc).2.1; omega)
        have hlen9 : ((kidsTo z i n).length : Int) ≤ 12 := by have := kidsTo_len z i n; omega
        obtain ⟨L, hL⟩ : ∃ x, x = sumL (fun c => (S z n c).lo) (kidsTo z i n) := ⟨_, rfl⟩
        obtain ⟨H, hH⟩ : ∃ x, x = sumL (fun c => (S z n c).hi) (kidsTo z i n) := ⟨_, rfl⟩
        rw [← hL] at SA HLB HDK
        rw [← hH] at SA HHB HDK
        have hLb : 0 ≤ L ∧ L ≤ 12884901888 := by have := HLB.out; omega
        have hHb : 0 ≤ H ∧ H ≤ 12884901888 := by have := HHB.out; omega
        obtain ⟨hL0, hL1⟩ := hLb
        obtain ⟨hH0, hH1⟩ := hHb
        clear hL hH HLB HHB hsp HSL HSH HOW hlen9
        go_wp2_with fail
        refine SA.out.mono ?_
        rintro e Y1 ⟨rfl, hy1⟩
        clear SA
        have hy2 := HLR.out.trans (hy1.mono HLR.out.size)
        replace HSP := Lib.hid (HSP.out.mono hy1)
        replace HIN := Lib.hid (HIN.out.mono hy2)
        replace HBX := Lib.hid (HBX.out.below hy2)
        replace HBT := Lib.hid (HBT.out.below hy2)
        replace HBF := Lib.hid (HBF.out.below hy2)
        have HWY := Lib.hid (HW2.out.trans (hy2.mono HW2.out.size))
        replace HL := Lib.hid (HL.out.trans (hy2.mono HL.out.size))
        clear hy1 hy2 HLR HW2
        have HDI := Lib.hid (show 0 ≤ (dnF z n i).lo ∧ (dnF z n i).lo ≤ (dnF z n i).hi ∧ (dnF z n i).hi ≤ 1073741824 by
          have h1 := HD.out i hi
          have h2 := HSB.out i hi
          omega)
        have HGI := Lib.hid (show ∀ T1 : Nat → Spn, (∀ j, (∀ c ∈ (kidsTo z i n).take m, ¬ Und z c j) → T1 j = T j) → T1 i = dnF z n i from fun T1 h => by
          rw [h i fun c hc => not_und_parent HZ.out hi (List.mem_of_mem_take hc)]; exact HTI.out)
        obtain ⟨K, hK⟩ : ∃ K, K = m := ⟨_, rfl⟩
        rw [← hK] at HMEM HXLT HTAKE HTALL HNU hm12 HIN HSP ⊢
        clear hK hm hlt HGI
        go_wp2_with fail
        go_loopw [39] (fun v39 wr => ∃ (m : Nat) (T1 : Nat → Spn), m ≤ K ∧ v39 = .int .i64 m ∧ Hid (Box gt (towC (.slice oa n ca) T1) 66 wr) ∧ Hid (Same (· ≠ gt) Y1 wr) ∧ Hid (∀ j, j < n → (∃ c ∈ (kidsTo z i n).take m, Und z c j) → T1 j = dnF z n j) ∧ Hid (∀ j, (∀ c ∈ (kidsTo z i n).take m, ¬ Und z c j) → T1 j = T j)) (fun v39 _ => K - (intOf v39).toNat)
        case atStart => exact ⟨0, T, Nat.zero_le _, rfl, HBX, Lib.hid (Same.refl _ _), Lib.hid (fun j _ h => by obtain ⟨c, hc, _⟩ := h; simp at hc), Lib.hid fun j _ => rfl⟩
        case round =>
          obtain ⟨m, T1, hm, rfl, HGB, HSY, HT1, HT2⟩ := hrel
          by_cases hlt : m < K
          · have hx := HXLT.out m hlt
            have hmem := HMEM.out m hlt
            have HT1I := Lib.hid (show T1 i = dnF z n i by rw [HT2.out i fun c hc => not_und_parent HZ.out hi (List.mem_of_mem_take hc)]; exact HTI.out)
            have HT1X := Lib.hid (show T1 ((kidsTo z i n).getD m 0) = S z n ((kidsTo z i n).getD m 0) by rw [HT2.out _ (HNU.out m hlt _ .refl)]; exact HTJ.out _ hmem)
            have HIHX := Lib.hid (fun (T2 : Nat → Spn) (V : World) => IH.out _ hmem T2 V)
            have HTK := HTAKE.out m hlt
            have HR1 := Lib.hid (show ∀ (T2 T3 : Nat → Spn), T2 = upd T1 ((kidsTo z i n).getD m 0) (dnF z n ((kidsTo z i n).getD m 0)) → (∀ j, j < n → Und z ((kidsTo z i n).getD m 0) j → T3 j = dnF z n j) → (∀ j, ¬ Und z ((kidsTo z i n).getD m 0) j → T3 j = T2 j) →
                (∀ j, j < n → (∃ c ∈ (kidsTo z i n).take (m + 1), Und z c j) → T3 j = dnF z n j) ∧ (∀ j, (∀ c ∈ (kidsTo z i n).take (m + 1), ¬ Und z c j) → T3 j = T j) from fun T2 T3 e2 h1 h2 => by
              rw [HTK]
              refine ⟨fun j hj ⟨c, hc, hu⟩ => ?_, fun j hj => ?_⟩
              · by_cases hux : Und z ((kidsTo z i n).getD m 0) j
                · exact h1 j hj hux
                · rw [h2 j hux, e2]
                  unfold upd
                  rw [if_neg (by rintro rfl; exact hux .refl)]
                  refine HT1.out j hj ⟨c, ?_, hu⟩
                  rcases List.mem_append.1 hc with hc | hc
                  · exact hc
                  · rw [List.mem_singleton] at hc; subst hc; exact absurd hu hux
              · have hux := hj ((kidsTo z i n).getD m 0) (by simp)
                rw [h2 j hux, e2]
                unfold upd
                rw [if_neg (by rintro rfl; exact hux .refl)]
                exact HT2.out j fun c hc => hj c (List.mem_append.2 (.inl hc)))
            have HR2 := Lib.hid (show ∀ j, j < n → Und z ((kidsTo z i n).getD m 0) j → j ≠ (kidsTo z i n).getD m 0 → upd T1 ((kidsTo z i n).getD m 0) (dnF z n ((kidsTo z i n).getD m 0)) j = S z n j from fun j hj hu hne => by
              unfold upd
              rw [if_neg hne, HT2.out j (HNU.out m hlt j hu)]
              have hki := kid_gt HZ.out hmem
              have hle := hu.le HZ.out hj
              exact HTU.out j hj ((Und.kid hmem).trans hu) (by omega))
            have HDX := HDK.out _ hmem
            have HKX := HKD.out _ hmem
            have hsb := HSB.out _ hx.2
            obtain ⟨kb, ko, rfl, hkl, hkc⟩ := HIN.out m hlt
            replace hkc : Y1.cell? ⟨kb, ko + m, none⟩ = some (.int .i64 (((kidsTo z i n).getD m 0 : Nat) : Int)) := hkc
            obtain ⟨lb, lof, rfl, hll, hl0, hl1⟩ := HSP.out m hlt
            replace hl0 : Y1.cell? ⟨lb, lof + m * 2, none⟩ = some (.int .i64 (S z n ((kidsTo z i n).getD m 0)).lo) := hl0
            replace hl1 : Y1.cell? ⟨lb, lof + m * 2 + 1, none⟩ = some (.int .i64 (S z n ((kidsTo z i n).getD m 0)).hi) := hl1
            clear HT1 HT2 HTK hmem
            obtain ⟨x, hxx⟩ : ∃ x, x = (kidsTo z i n).getD m 0 := ⟨_, rfl⟩
            rw [← hxx] at hx HT1X HIHX HR1 HR2 HDX HKX hsb hkc hl0 hl1
            clear hxx
            obtain ⟨sx, hsx⟩ : ∃ s, s = S z n x := ⟨_, rfl⟩
            rw [← hsx] at HT1X HDX hsb hl0 hl1
            clear hsx
            obtain ⟨dx, hdx⟩ : ∃ s, s = dnF z n x := ⟨_, rfl⟩
            rw [← hdx] at HDX HKX HR1 HR2
            have HDXE := Lib.hid hdx
            clear hdx
            have hdi := HDI.out
            obtain ⟨di, hdi9⟩ : ∃ s, s = dnF z n i := ⟨_, rfl⟩
            rw [← hdi9] at HT1I HDX hdi
            clear hdi9
            obtain ⟨sl, sh⟩ := sx
            obtain ⟨dl, dh⟩ := di
            simp only at hsb hdi hl0 hl1 HDX
            have HCUT := Lib.hid (show ∀ V : World, Calls Try.prog 61 #[.agg #[.int .i64 sl, .int .i64 sh], .int .i64 (dl - (H - sh)), .int .i64 (dh - (L - sl))] V fun e w' => e = .returned dx.val ∧ Below V.heap.size V w' from fun V => (cut_any ⟨sl, sh⟩ (dl - (H - sh)) (dh - (L - sl)) V).mono fun e w' hh => by
              obtain ⟨h1, h2⟩ := hh
              refine ⟨?_, h2⟩
              rcases h1 with ⟨h1, -⟩ | ⟨-, h1⟩
              · rw [← HDX] at h1; omega
              · rw [HDX]; exact h1)
            have HGW := HGB.out
            have HBTW := Lib.hid (show Box bt #[.pointer (some ⟨gt, 0, none⟩)] 63 wr from ⟨(HSY.out.block bt HBT.out.lt (Ne.symm HGB0.out.1)).trans HBT.out.row⟩)
            have HBFW := Lib.hid (show Box bf #[.func (.func 62) #[] #[.pointer (some ⟨bt, 0, none⟩), .pointer (some ⟨bf, 0, none⟩)]] 101 wr from ⟨(HSY.out.block bf HBF.out.lt (Ne.symm HGB0.out.2)).trans HBF.out.row⟩)
            have hkn : kb ≠ gt := HKB.out _ rfl
            have hln : lb ≠ gt := HLB2.out _ rfl
            have HKR := Lib.hid (show kb < wr.heap.size ∧ wr.cell? ⟨kb, ko + m, none⟩ = some (.int .i64 x) from ⟨Nat.lt_of_lt_of_le hkl HSY.out.size, (HSY.out.cell (a := ⟨kb, ko + m, none⟩) hkl hkn).trans hkc⟩)
            have HLR := Lib.hid (show lb < wr.heap.size ∧ wr.cell? ⟨lb, lof + m * 2, none⟩ = some (.int .i64 sl) ∧ wr.cell? ⟨lb, lof + m * 2 + 1, none⟩ = some (.int .i64 sh) from ⟨Nat.lt_of_lt_of_le hll HSY.out.size, (HSY.out.cell (a := ⟨lb, lof + m * 2, none⟩) hll hln).trans hl0, (HSY.out.cell (a := ⟨lb, lof + m * 2 + 1, none⟩) hll hln).trans hl1⟩)
            have HD0 := Lib.hid (show (towC (.slice oa n ca) T1)[1 + i * 2]? = some (.int .i64 dl) by rw [towC_lo (by omega), HT1I.out])
            have HD1 := Lib.hid (show (towC (.slice oa n ca) T1)[1 + i * 2 + 1]? = some (.int .i64 dh) by rw [towC_hi (by omega), HT1I.out])
            have HHX := Lib.hid hx
            have hm0 : (0 : Int) ≤ (m : Int) := by omega
            have hm1 : (m : Int) < (K : Int) := by omega
            have k1 := HKR.out.1
            have k2 := HKR.out.2
            clear HDX HKX hkc hl0 hl1 hkl hll hkn hln HGW HT1X HT1I hlt
            go_upto_region 11 with fail
            clear k1 k2
            have hxx1 : (x : Int) < 12 := by omega
            have hii1 : (i : Int) < 12 := by omega
            have hP0 : ∀ V V' : World, Below wr.heap.size wr V → Below V.heap.size V V' → Below wr.heap.size wr V' := fun V V' h1 h2 => h1.trans (h2.mono h1.size)
            have hP1 : ∀ V V' : World, gt < V.heap.size → Below V.heap.size V V' → gt < V'.heap.size := fun _ _ h1 h2 => Nat.lt_of_lt_of_le h1 h2.size
            have hP01 : ∀ V : World, Below wr.heap.size wr V → gt < V.heap.size := fun _ h1 => Nat.lt_of_lt_of_le HGB.out.lt h1.size
            have hC0 : Below wr.heap.size wr wr.drew := (Below.refl _ _).drew
            replace HBT := HBTW
            refine wp_region_phase 40 (fun V => Below wr.heap.size wr V) (fun V => gt < V.heap.size) (by kernel_rfl) ?_
            (refine wpAnyP_take0 (i := 0) hP0 hP1 hC0 (by decide) (by rfl) rfl (by kernel_rfl) rfl (by kernel_rfl) (by kernel_rfl) (by kernel_rfl) (fun _ _ _ _ h => h) (by rfl) ?_; apply Exists.intro; refine ⟨fun w1 h1 K hK => ?_, ?_⟩; · (have q0 : ∀ V : Aft w1, V.val.cell? ⟨bt, 0, none⟩ = some (.pointer (some ⟨gt, 0, none⟩)) := fun V => (HBT.out.below (hP0 _ _ h1 V.below)).cell 0 rfl; go_big_quiet_op; first | exact hK | fail))
            (refine wpAnyP_take0 (i := 1) hP0 hP1 hC0 (by decide) (by rfl) rfl (by kernel_rfl) rfl (by kernel_rfl) (by kernel_rfl) (by kernel_rfl) (fun _ _ _ _ h => h) (by rfl) ?_; apply Exists.intro; refine ⟨fun w1 h1 K hK => ?_, ?_⟩; · ( go_big_quiet_op; first | exact hK | fail))
            (refine wpAnyP_take0 (i := 2) hP0 hP1 hC0 (by decide) (by rfl) rfl (by kernel_rfl) rfl (by kernel_rfl) (by kernel_rfl) (by kernel_rfl) (fun _ _ _ _ h => h) (by rfl) ?_; apply Exists.intro; refine ⟨fun w1 h1 K hK => ?_, ?_⟩; · ( go_big_quiet_op; first | exact hK | fail))
            (refine wpAnyP_take0 (i := 3) hP0 hP1 hC0 (by decide) (by rfl) rfl (by kernel_rfl) rfl (by kernel_rfl) (by kernel_rfl) (by kernel_rfl) (fun _ _ _ _ h => h) (by rfl) ?_; apply Exists.intro; refine ⟨fun w1 h1 K hK => ?_, ?_⟩; · ( go_big_quiet_op; first | exact hK | fail))
            (refine wpAnyP_take0 (i := 4) hP0 hP1 hC0 (by decide) (by rfl) rfl (by kernel_rfl) rfl (by kernel_rfl) (by kernel_rfl) (by kernel_rfl) (fun _ _ _ _ h => h) (by rfl) ?_; apply Exists.intro; refine ⟨fun w1 h1 K hK => ?_, ?_⟩; · (have q0 : ∀ V : Aft w1, lb < V.val.heap.size := fun V => Nat.lt_of_lt_of_le HLR.out.1 (hP0 _ _ h1 V.below).size; go_big_quiet_op; first | exact hK | fail))
            (refine wpAnyP_take0 (i := 5) hP0 hP1 hC0 (by decide) (by rfl) rfl (by kernel_rfl) rfl (by kernel_rfl) (by kernel_rfl) (by kernel_rfl) (fun _ _ _ _ h => h) (by rfl) ?_; apply Exists.intro; refine ⟨fun w1 h1 K hK => ?_, ?_⟩; · (have q0 : ∀ V : Aft w1, lb < V.val.heap.size := fun V => Nat.lt_of_lt_of_le HLR.out.1 (hP0 _ _ h1 V.below).size;have q1 : ∀ V : Aft w1, V.val.cell? ⟨lb, lof + m * 2, none⟩ = some (.int .i64 sl) := fun V => ((hP0 _ _ h1 V.below).cell (p := ⟨lb, lof + m * 2, none⟩) HLR.out.1).trans HLR.out.2.1;have q2 : ∀ V : Aft w1, V.val.cell? ⟨lb, lof + m * 2 + 1, none⟩ = some (.int .i64 sh) := fun V => ((hP0 _ _ h1 V.below).cell (p := ⟨lb, lof + m * 2 + 1, none⟩) HLR.out.1).trans HLR.out.2.2; go_big_quiet_op; first | exact hK | fail))
            (refine wpAnyP_take0 (i := 6) hP0 hP1 hC0 (by decide) (by rfl) rfl (by kernel_rfl) rfl (by kernel_rfl) (by kernel_rfl) (by kernel_rfl) (fun _ _ _ _ h => h) (by rfl) ?_; apply Exists.intro; refine ⟨fun w1 h1 K hK => ?_, ?_⟩; · (have q0 : ∀ V : Aft w1, V.val.cell? ⟨bt, 0, none⟩ = some (.pointer (some ⟨gt, 0, none⟩)) := fun V => (HBT.out.below (hP0 _ _ h1 V.below)).cell 0 rfl; go_big_quiet_op; first | exact hK | fail))
            (refine wpAnyP_take0 (i := 7) hP0 hP1 hC0 (by decide) (by rfl) rfl (by kernel_rfl) rfl (by kernel_rfl) (by kernel_rfl) (by kernel_rfl) (fun _ _ _ _ h => h) (by rfl) ?_; apply Exists.intro; refine ⟨fun w1 h1 K hK => ?_, ?_⟩; · ( go_big_quiet_op; first | exact hK | fail))
            (refine wpAnyP_take0 (i := 8) hP0 hP1 hC0 (by decide) (by rfl) rfl (by kernel_rfl) rfl (by kernel_rfl) (by kernel_rfl) (by kernel_rfl) (fun _ _ _ _ h => h) (by rfl) ?_; apply Exists.intro; refine ⟨fun w1 h1 K hK => ?_, ?_⟩; · (have q0 : ∀ V : Aft w1, gt < V.val.heap.size := fun V => (HGB.out.below (hP0 _ _ h1 V.below)).lt; go_big_quiet_op; first | exact hK | fail))
            (refine wpAnyP_take0 (i := 9) hP0 hP1 hC0 (by decide) (by rfl) rfl (by kernel_rfl) rfl (by kernel_rfl) (by kernel_rfl) (by kernel_rfl) (fun _ _ _ _ h => h) (by rfl) ?_; apply Exists.intro; refine ⟨fun w1 h1 K hK => ?_, ?_⟩; · (have q0 : ∀ V : Aft w1, gt < V.val.heap.size := fun V => (HGB.out.below (hP0 _ _ h1 V.below)).lt; go_big_quiet_op; first | exact hK | fail))
            (refine wpAnyP_take0 (i := 10) hP0 hP1 hC0 (by decide) (by rfl) rfl (by kernel_rfl) rfl (by kernel_rfl) (by kernel_rfl) (by kernel_rfl) (fun _ _ _ _ h => h) (by rfl) ?_; apply Exists.intro; refine ⟨fun w1 h1 K hK => ?_, ?_⟩; · (have q0 : ∀ V : Aft w1, gt < V.val.heap.size := fun V => (HGB.out.below (hP0 _ _ h1 V.below)).lt; go_big_quiet_op; first | exact hK | fail))
            (refine wpAnyP_take0 (i := 11) hP0 hP1 hC0 (by decide) (by rfl) rfl (by kernel_rfl) rfl (by kernel_rfl) (by kernel_rfl) (by kernel_rfl) (fun _ _ _ _ h => h) (by rfl) ?_; apply Exists.intro; refine ⟨fun w1 h1 K hK => ?_, ?_⟩; · (have q0 : ∀ V : Aft w1, gt < V.val.heap.size := fun V => (HGB.out.below (hP0 _ _ h1 V.below)).lt; go_big_quiet_op; first | exact hK | fail))
            (refine wpAnyP_take0 (i := 12) hP0 hP1 hC0 (by decide) (by rfl) rfl (by kernel_rfl) rfl (by kernel_rfl) (by kernel_rfl) (by kernel_rfl) (fun _ _ _ _ h => h) (by rfl) ?_; apply Exists.intro; refine ⟨fun w1 h1 K hK => ?_, ?_⟩; · (have q1 : ∀ V : Aft w1, V.val.cell? ⟨gt, 1 + i * 2, none⟩ = some (.int .i64 dl) := fun V => (HGB.out.below (hP0 _ _ h1 V.below)).cell _ HD0.out; go_big_quiet_op; first | exact hK | fail))
            (refine wpAnyP_take0 (i := 13) hP0 hP1 hC0 (by decide) (by rfl) rfl (by kernel_rfl) rfl (by kernel_rfl) (by kernel_rfl) (by kernel_rfl) (fun _ _ _ _ h => h) (by rfl) ?_; apply Exists.intro; refine ⟨fun w1 h1 K hK => ?_, ?_⟩; · ( go_big_quiet_op; first | exact hK | fail))
            (refine wpAnyP_take0 (i := 14) hP0 hP1 hC0 (by decide) (by rfl) rfl (by kernel_rfl) rfl (by kernel_rfl) (by kernel_rfl) (by kernel_rfl) (fun _ _ _ _ h => h) (by rfl) ?_; apply Exists.intro; refine ⟨fun w1 h1 K hK => ?_, ?_⟩; · ( go_big_quiet_op; first | exact hK | fail))
            (refine wpAnyP_take0 (i := 15) hP0 hP1 hC0 (by decide) (by rfl) rfl (by kernel_rfl) rfl (by kernel_rfl) (by kernel_rfl) (by kernel_rfl) (fun _ _ _ _ h => h) (by rfl) ?_; apply Exists.intro; refine ⟨fun w1 h1 K hK => ?_, ?_⟩; · ( go_big_quiet_op; first | exact hK | fail))
            (refine wpAnyP_take0 (i := 16) hP0 hP1 hC0 (by decide) (by rfl) rfl (by kernel_rfl) rfl (by kernel_rfl) (by kernel_rfl) (by kernel_rfl) (fun _ _ _ _ h => h) (by rfl) ?_; apply Exists.intro; refine ⟨fun w1 h1 K hK => ?_, ?_⟩; · (have q0 : ∀ V : Aft w1, lb < V.val.heap.size := fun V => Nat.lt_of_lt_of_le HLR.out.1 (hP0 _ _ h1 V.below).size; go_big_quiet_op; first | exact hK | fail))
            (refine wpAnyP_take0 (i := 17) hP0 hP1 hC0 (by decide) (by rfl) rfl (by kernel_rfl) rfl (by kernel_rfl) (by kernel_rfl) (by kernel_rfl) (fun _ _ _ _ h => h) (by rfl) ?_; apply Exists.intro; refine ⟨fun w1 h1 K hK => ?_, ?_⟩; · (have q0 : ∀ V : Aft w1, lb < V.val.heap.size := fun V => Nat.lt_of_lt_of_le HLR.out.1 (hP0 _ _ h1 V.below).size; go_big_quiet_op; first | exact hK | fail))
            (refine wpAnyP_take0 (i := 18) hP0 hP1 hC0 (by decide) (by rfl) rfl (by kernel_rfl) rfl (by kernel_rfl) (by kernel_rfl) (by kernel_rfl) (fun _ _ _ _ h => h) (by rfl) ?_; apply Exists.intro; refine ⟨fun w1 h1 K hK => ?_, ?_⟩; · (have q2 : ∀ V : Aft w1, V.val.cell? ⟨lb, lof + m * 2 + 1, none⟩ = some (.int .i64 sh) := fun V => ((hP0 _ _ h1 V.below).cell (p := ⟨lb, lof + m * 2 + 1, none⟩) HLR.out.1).trans HLR.out.2.2; go_big_quiet_op; first | exact hK | fail))
            (refine wpAnyP_take0 (i := 19) hP0 hP1 hC0 (by decide) (by rfl) rfl (by kernel_rfl) rfl (by kernel_rfl) (by kernel_rfl) (by kernel_rfl) (fun _ _ _ _ h => h) (by rfl) ?_; apply Exists.intro; refine ⟨fun w1 h1 K hK => ?_, ?_⟩; · ( go_big_quiet_op; first | exact hK | fail))
            (refine wpAnyP_take0 (i := 20) hP0 hP1 hC0 (by decide) (by rfl) rfl (by kernel_rfl) rfl (by kernel_rfl) (by kernel_rfl) (by kernel_rfl) (fun _ _ _ _ h => h) (by rfl) ?_; apply Exists.intro; refine ⟨fun w1 h1 K hK => ?_, ?_⟩; · ( go_big_quiet_op; first | exact hK | fail))
            (refine wpAnyP_take0 (i := 21) hP0 hP1 hC0 (by decide) (by rfl) rfl (by kernel_rfl) rfl (by kernel_rfl) (by kernel_rfl) (by kernel_rfl) (fun _ _ _ _ h => h) (by rfl) ?_; apply Exists.intro; refine ⟨fun w1 h1 K hK => ?_, ?_⟩; · (have q0 : ∀ V : Aft w1, V.val.cell? ⟨bt, 0, none⟩ = some (.pointer (some ⟨gt, 0, none⟩)) := fun V => (HBT.out.below (hP0 _ _ h1 V.below)).cell 0 rfl; go_big_quiet_op; first | exact hK | fail))
            (refine wpAnyP_take0 (i := 22) hP0 hP1 hC0 (by decide) (by rfl) rfl (by kernel_rfl) rfl (by kernel_rfl) (by kernel_rfl) (by kernel_rfl) (fun _ _ _ _ h => h) (by rfl) ?_; apply Exists.intro; refine ⟨fun w1 h1 K hK => ?_, ?_⟩; · ( go_big_quiet_op; first | exact hK | fail))
            (refine wpAnyP_take0 (i := 23) hP0 hP1 hC0 (by decide) (by rfl) rfl (by kernel_rfl) rfl (by kernel_rfl) (by kernel_rfl) (by kernel_rfl) (fun _ _ _ _ h => h) (by rfl) ?_; apply Exists.intro; refine ⟨fun w1 h1 K hK => ?_, ?_⟩; · (have q0 : ∀ V : Aft w1, gt < V.val.heap.size := fun V => (HGB.out.below (hP0 _ _ h1 V.below)).lt; go_big_quiet_op; first | exact hK | fail))
            (refine wpAnyP_take0 (i := 24) hP0 hP1 hC0 (by decide) (by rfl) rfl (by kernel_rfl) rfl (by kernel_rfl) (by kernel_rfl) (by kernel_rfl) (fun _ _ _ _ h => h) (by rfl) ?_; apply Exists.intro; refine ⟨fun w1 h1 K hK => ?_, ?_⟩; · (have q0 : ∀ V : Aft w1, gt < V.val.heap.size := fun V => (HGB.out.below (hP0 _ _ h1 V.below)).lt; go_big_quiet_op; first | exact hK | fail))
            (refine wpAnyP_take0 (i := 25) hP0 hP1 hC0 (by decide) (by rfl) rfl (by kernel_rfl) rfl (by kernel_rfl) (by kernel_rfl) (by kernel_rfl) (fun _ _ _ _ h => h) (by rfl) ?_; apply Exists.intro; refine ⟨fun w1 h1 K hK => ?_, ?_⟩; · (have q0 : ∀ V : Aft w1, gt < V.val.heap.size := fun V => (HGB.out.below (hP0 _ _ h1 V.below)).lt; go_big_quiet_op; first | exact hK | fail))
            (refine wpAnyP_take0 (i := 26) hP0 hP1 hC0 (by decide) (by rfl) rfl (by kernel_rfl) rfl (by kernel_rfl) (by kernel_rfl) (by kernel_rfl) (fun _ _ _ _ h => h) (by rfl) ?_; apply Exists.intro; refine ⟨fun w1 h1 K hK => ?_, ?_⟩; · (have q0 : ∀ V : Aft w1, gt < V.val.heap.size := fun V => (HGB.out.below (hP0 _ _ h1 V.below)).lt; go_big_quiet_op; first | exact hK | fail))
            (refine wpAnyP_take0 (i := 27) hP0 hP1 hC0 (by decide) (by rfl) rfl (by kernel_rfl) rfl (by kernel_rfl) (by kernel_rfl) (by kernel_rfl) (fun _ _ _ _ h => h) (by rfl) ?_; apply Exists.intro; refine ⟨fun w1 h1 K hK => ?_, ?_⟩; · (have q1 : ∀ V : Aft w1, V.val.cell? ⟨gt, 1 + i * 2 + 1, none⟩ = some (.int .i64 dh) := fun V => (HGB.out.below (hP0 _ _ h1 V.below)).cell _ HD1.out; go_big_quiet_op; first | exact hK | fail))
            (refine wpAnyP_take0 (i := 28) hP0 hP1 hC0 (by decide) (by rfl) rfl (by kernel_rfl) rfl (by kernel_rfl) (by kernel_rfl) (by kernel_rfl) (fun _ _ _ _ h => h) (by rfl) ?_; apply Exists.intro; refine ⟨fun w1 h1 K hK => ?_, ?_⟩; · ( go_big_quiet_op; first | exact hK | fail))
            (refine wpAnyP_take0 (i := 29) hP0 hP1 hC0 (by decide) (by rfl) rfl (by kernel_rfl) rfl (by kernel_rfl) (by kernel_rfl) (by kernel_rfl) (fun _ _ _ _ h => h) (by rfl) ?_; apply Exists.intro; refine ⟨fun w1 h1 K hK => ?_, ?_⟩; · ( go_big_quiet_op; first | exact hK | fail))
            (refine wpAnyP_take0 (i := 30) hP0 hP1 hC0 (by decide) (by rfl) rfl (by kernel_rfl) rfl (by kernel_rfl) (by kernel_rfl) (by kernel_rfl) (fun _ _ _ _ h => h) (by rfl) ?_; apply Exists.intro; refine ⟨fun w1 h1 K hK => ?_, ?_⟩; · ( go_big_quiet_op; first | exact hK | fail))
            (refine wpAnyP_take0 (i := 31) hP0 hP1 hC0 (by decide) (by rfl) rfl (by kernel_rfl) rfl (by kernel_rfl) (by kernel_rfl) (by kernel_rfl) (fun _ _ _ _ h => h) (by rfl) ?_; apply Exists.intro; refine ⟨fun w1 h1 K hK => ?_, ?_⟩; · (have q0 : ∀ V : Aft w1, lb < V.val.heap.size := fun V => Nat.lt_of_lt_of_le HLR.out.1 (hP0 _ _ h1 V.below).size; go_big_quiet_op; first | exact hK | fail))
            (refine wpAnyP_take0 (i := 32) hP0 hP1 hC0 (by decide) (by rfl) rfl (by kernel_rfl) rfl (by kernel_rfl) (by kernel_rfl) (by kernel_rfl) (fun _ _ _ _ h => h) (by rfl) ?_; apply Exists.intro; refine ⟨fun w1 h1 K hK => ?_, ?_⟩; · (have q0 : ∀ V : Aft w1, lb < V.val.heap.size := fun V => Nat.lt_of_lt_of_le HLR.out.1 (hP0 _ _ h1 V.below).size; go_big_quiet_op; first | exact hK | fail))
            (refine wpAnyP_take0 (i := 33) hP0 hP1 hC0 (by decide) (by rfl) rfl (by kernel_rfl) rfl (by kernel_rfl) (by kernel_rfl) (by kernel_rfl) (fun _ _ _ _ h => h) (by rfl) ?_; apply Exists.intro; refine ⟨fun w1 h1 K hK => ?_, ?_⟩; · (have q1 : ∀ V : Aft w1, V.val.cell? ⟨lb, lof + m * 2, none⟩ = some (.int .i64 sl) := fun V => ((hP0 _ _ h1 V.below).cell (p := ⟨lb, lof + m * 2, none⟩) HLR.out.1).trans HLR.out.2.1; go_big_quiet_op; first | exact hK | fail))
            (refine wpAnyP_take0 (i := 34) hP0 hP1 hC0 (by decide) (by rfl) rfl (by kernel_rfl) rfl (by kernel_rfl) (by kernel_rfl) (by kernel_rfl) (fun _ _ _ _ h => h) (by rfl) ?_; apply Exists.intro; refine ⟨fun w1 h1 K hK => ?_, ?_⟩; · ( go_big_quiet_op; first | exact hK | fail))
            (refine wpAnyP_take0 (i := 35) hP0 hP1 hC0 (by decide) (by rfl) rfl (by kernel_rfl) rfl (by kernel_rfl) (by kernel_rfl) (by kernel_rfl) (fun _ _ _ _ h => h) (by rfl) ?_; apply Exists.intro; refine ⟨fun w1 h1 K hK => ?_, ?_⟩; · ( go_big_quiet_op; first | exact hK | fail))
            (refine wpAnyP_take0 (i := 36) hP0 hP1 hC0 (by decide) (by rfl) rfl (by kernel_rfl) rfl (by kernel_rfl) (by kernel_rfl) (by kernel_rfl) (fun _ _ _ _ h => h) (by rfl) ?_; apply Exists.intro; refine ⟨fun w1 h1 K hK => ?_, ?_⟩; · ( go_big_quiet_op; first | exact hK | exact ⟨_, fun W => aft_call (HCUT.out _), hK⟩))
            (refine wpAnyP_take1 (i := 37) hP0 hP1 hP01 hC0 (by decide) rfl (by kernel_rfl) (by kernel_rfl) (by kernel_rfl) (fun _ _ _ _ h => h) (by rfl) ?_; apply Exists.intro; refine ⟨fun w1 h1 K hK => ?_, ?_⟩; · (have q0 : ∀ V : Aft w1, gt < V.val.heap.size := fun V => hP1 _ _ h1 V.below; go_big_quiet_op; first | exact hK | fail))
            (refine wpAnyP_take1 (i := 38) hP0 hP1 hP01 hC0 (by decide) rfl (by kernel_rfl) (by kernel_rfl) (by kernel_rfl) (fun _ _ _ _ h => h) (by rfl) ?_; apply Exists.intro; refine ⟨fun w1 h1 K hK => ?_, ?_⟩; · (have q0 : ∀ V : Aft w1, gt < V.val.heap.size := fun V => hP1 _ _ h1 V.below; go_big_quiet_op; first | exact hK | fail))
            (refine wpAnyP_take0 (i := 39) hP0 hP1 hC0 (by decide) (by rfl) rfl (by kernel_rfl) rfl (by kernel_rfl) (by kernel_rfl) (by kernel_rfl) (fun _ _ _ _ h => h) (by rfl) ?_; apply Exists.intro; refine ⟨fun w1 h1 K hK => ?_, ?_⟩; · (have q0 : ∀ V : Aft w1, gt < V.val.heap.size := fun V => (HGB.out.below (hP0 _ _ h1 V.below)).lt; go_big_quiet_op; first | exact hK | fail))
            (refine wpAnyP_one (i := 40) (by kernel_rfl) rfl (by rfl) (fun ya hya K hK => ?_))
            have hYA := hP0 _ _ hC0 hya
            obtain ⟨xl, xh⟩ := dx
            refine wp_store_at (HGB.out.below hYA) rfl rfl rfl (by simp; omega) (by kernel_rfl) (by simp [Value.oneCell']) (fun yb zs ho => ?_)
            dsimp only [Act.put]
            rw [show (#[Value.int .i64 xl, Value.int .i64 xh] : Array Value).toList = [.int .i64 xl, .int .i64 xh] from rfl] at zs
            have zs := (show setA (towC (.slice oa n ca) T1) (1 + x * 2) [.int .i64 xl, .int .i64 xh] = towC (.slice oa n ca) (upd T1 x ⟨xl, xh⟩) from towC_set (by omega) ⟨xl, xh⟩) ▸ zs
            refine hK _ _ zs.lt ?_
            clear hK K
            refine wpAnyP_done (by kernel_rfl) (fun yc hyc => ?_) _
            have hgb := HGB0.out
            have HBT5 := Lib.hid ((ho.box (HBTW.out.below hYA) (Ne.symm hgb.1)).below hyc)
            have HBF5 := Lib.hid ((ho.box (HBFW.out.below hYA) (Ne.symm hgb.2)).below hyc)
            have HGT5 := Lib.hid (zs.below hyc)
            have HS5 := Lib.hid (((HSY.out.trans (Same.of_below hYA fun _ h _ => h)).trans (⟨ho.os, ho.tape, ho.output, Nat.le_of_eq ho.size.symm, fun b _ hp => ho.block b hp⟩ : Same (· ≠ gt) ya yb)).trans (Same.of_below hyc fun _ h _ => h))
            have HLC := Lib.hid (show Below w.heap.size w yc from HL.out.trans (HS5.out.below HL.out.size fun k hk => by have h1 := HG.out; omega))
            clear hP0 hP1 hP01 hC0 hya hYA zs ho hyc HGB HSY HBTW HBFW HKR HLR HD0 HD1 HCUT
            have f5 := HBF5.out.cell 0 (v := .func (.func 62) #[] #[.pointer (some ⟨bt, 0, none⟩), .pointer (some ⟨bf, 0, none⟩)]) rfl
            go_wp2_with fail
            have HR19 := Lib.hid (HR1.out (upd T1 x ⟨xl, xh⟩))
            refine (HIHX.out (upd T1 x ⟨xl, xh⟩) yc HLC.out HGT5.out HBT5.out HBF5.out (by unfold upd; rw [if_pos rfl]; exact HDXE.out) HR2.out).mono ?_
            rintro e y9 ⟨⟨v, rfl⟩, T3, hb3, hs3, h31, h32⟩
            have HB9 := Lib.hid hb3
            have HS9 := Lib.hid (HS5.out.trans hs3)
            have HR9 := Lib.hid (HR19.out T3 rfl h31 h32)
            clear hb3 hs3 h31 h32 f5
            go_wp2_with fail
            go_roundw
            case rel => exact ⟨m + 1, T3, by omega, by go_num, HB9, HS9, Lib.hid HR9.out.1, Lib.hid HR9.out.2⟩
            case measure => simp [intOf]; omega
          · obtain rfl : m = K := by omega
            have HEND := Lib.hid (show (∀ j, j < n → Und z i j → T1 j = dnF z n j) ∧ (∀ j, ¬ Und z i j → T1 j = T j) by
              have h1 := HT1.out
              have h2 := HT2.out
              rw [HTALL.out] at h1 h2
              refine ⟨fun j hj hu => ?_, fun j hu => h2 j fun c hc h => hu ((Und.kid hc).trans h)⟩
              rcases hu.cases_kid HZ.out hj with rfl | h
              · rw [h2 j fun c hc => not_und_parent HZ.out hi hc]; exact HTI.out
              · exact h1 j hj h)
            have HSW := Lib.hid (show Same (· ≠ gt) W wr from (Same.of_below HWY.out fun _ h _ => h).trans HSY.out)
            go_wp2_with fail
            refine bodyPost_end (results_none rfl _ _ _) rfl ⟨⟨_, rfl⟩, T1, HGB.out, HSW.out, HEND.out.1, HEND.out.2⟩
theorem und_top {z : Nat → Zon} {a r : Nat} (hr : (z r).p = -1) (h : Und z a r) : a = r := by
  cases h with
  | refl => rfl
  | up hp _ => omega
theorem tops_ne {z : Nat → Zon} {r s j : Nat} (hr : (z r).p = -1) (hs : (z s).p = -1) (h1 : Und z r j) (h2 : Und z s j) : r = s := by
  rcases h1.tri h2 with h | h
  · exact und_top hs h
  · exact (und_top hr h).symm
theorem has_top {z : Nat → Zon} {n : Nat} (hz : Tree z n) : ∀ j, j < n → ∃ r, r ≤ j ∧ (z r).p = -1 ∧ Und z r j := by
  intro j
  induction j using Nat.strongRecOn with
  | _ j ih =>
    intro hj
    have h0 := hz j hj
    by_cases hp : (z j).p = -1
    · exact ⟨j, Nat.le_refl _, hp, .refl⟩
    · obtain ⟨q, hq⟩ : ∃ q : Nat, (z j).p = (q : Int) := ⟨(z j).p.toNat, by omega⟩
      obtain ⟨r, h1, h2, h3⟩ := ih q (by omega) (by omega)
      exact ⟨r, by omega, h2, .up hq h3⟩
end Go.Proofs.Ytipnaeijbbbdoaa
