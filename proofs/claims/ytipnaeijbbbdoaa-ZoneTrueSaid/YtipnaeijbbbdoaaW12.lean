/- Zone: Losses. -/
import Derived.Test.YtipnaeijbbbdoaaW11
namespace Go.Proofs.Ytipnaeijbbbdoaa
open Go.RowKit
theorem listB_spec {n : Nat} {z : Nat → Zon} (h : listB n z = true) : 1 ≤ n ∧ n ≤ 12 ∧ Tree z n ∧ ∀ i, i < n → (z i).ok := by
  unfold listB at h
  rw [Bool.and_eq_true, allB_iff] at h
  obtain ⟨h1, h2⟩ := h
  simp only [withinB, decide_eq_true_eq] at h2
  have key : ∀ i, i < n → (z i).ok ∧ -1 ≤ (z i).p ∧ (z i).p ≤ (i : Int) - 1 := fun i hi => by
    have h3 := h1 i hi
    unfold zonB at h3
    simp only [Bool.and_eq_true, spanB, withinB, decide_eq_true_eq] at h3
    obtain ⟨a1, a2, a3, a4, a5⟩ := h3
    exact ⟨⟨a1, a2, a4, a3⟩, a5⟩
  exact ⟨by omega, by omega, fun c hc => by have := (key c hc).2; omega, fun i hi => (key i hi).1⟩
theorem spans_news {w : World} {b off n : Nat} {t : Nat → Spn} (h : SpnsAt w (some ⟨b, off, none⟩) n t) : ∀ (j : Nat) (u : Value), (spanNews n t)[j]? = some u → w.cell? ((⟨b, off, none⟩ : Addr).add j) = some u := by
  intro j u hu
  unfold spanNews pairNews at hu
  rw [List.getElem?_map] at hu
  by_cases hj : j < n * 2
  · rw [List.getElem?_range hj] at hu
    simp only [Option.map_some, Option.some.injEq] at hu
    obtain ⟨b', o', e, hl, h0, h1⟩ := h (j / 2) (by omega)
    cases e
    rw [add_flat, ← hu]
    by_cases h2 : j % 2 = 0
    · rw [if_pos h2]
      have e2 : off + j / 2 * 2 = off + j := by omega
      rw [e2] at h0; exact h0
    · rw [if_neg h2]
      have e2 : off + j / 2 * 2 + 1 = off + j := by omega
      rw [e2] at h1; exact h1
  · rw [List.getElem?_eq_none (by simpa using hj)] at hu
    cases hu
theorem spanNews_length (n : Nat) (t : Nat → Spn) : (spanNews n t).length = n * 2 := by simp [spanNews, pairNews]
theorem spanNews_one {n : Nat} {t : Nat → Spn} : ∀ u ∈ spanNews n t, u.oneCell' = true := fun u hu => by
  unfold spanNews pairNews at hu
  obtain ⟨j, -, rfl⟩ := List.mem_map.1 hu
  rfl
set_option maxRecDepth 100000 in
set_option maxHeartbeats 4000000 in
theorem clone_any (b off n ca : Nat) (t : Nat → Spn) (w : World) (hn : n ≤ 1000) (hA : SpnsAt w (some ⟨b, off, none⟩) n t) :
    Calls Try.prog 38 #[.slice (some ⟨b, off, none⟩) n ca] w fun e w' => (∃ oL cL, e = .returned (.slice oL n cL) ∧ SpnsAt w' oL n t ∧ ∀ a, oL = some a → w.heap.size ≤ a.block) ∧ Below w.heap.size w w' := by
  have HC9 := Lib.hid (fun (V : World) (hb : Below w.heap.size w V) => spans_news (hA.mono hb))
  clear hA
  obtain ⟨iR, hiR, hzR0, hzR1, hzR2⟩ := info_parts (P := Try.prog) (e := 41) (z := .agg #[.int .i64 0, .int .i64 0]) (size := 2) (bytes := 16) (by kernel_rfl)
  have HIR := Lib.hid hiR
  have HZR := Lib.hid (And.intro hzR0 (And.intro hzR1 hzR2))
  clear hiR hzR0 hzR1 hzR2
  have he : ∀ W : World, (binOp .eql 24 (.slice (some ⟨b, off, none⟩) n ca) (.slice none 0 0)).run Try.prog W = .ok (.bool false) W := fun _ => rfl
  go_enter Try.func38, Try.ntmps38
  go_wp2_with (at_builtin; refine wpList_append_gen rfl (.tmp 5) (.tmp 6) _ rfl w.heap.size 41 iR _ 2 16 Try.underlying24 HIR.out HZR.out.1 HZR.out.2.1 HZR.out.2.2 rfl (by omega) (.slice (some ⟨w.heap.size, 0, none⟩) 0 0) 0 [] rfl (some ⟨b, off, none⟩) n ca (spanNews n t) rfl (owns_empty (Nat.le_refl _) (heap_new rfl)) (fun e9 => by cases e9) (spanNews_length n t) (fun ad9 e9 j9 u9 hu9 => by cases e9; exact (HC9.out _ (below_alloc1 w _)) j9 u9 hu9) spanNews_one (by simp only [maxLen]; omega) (by omega) (by simp) ?_; intro vS wS hownS hgrowS)
  rw [Nat.zero_add, List.nil_append] at hownS
  obtain ⟨oL, cL, rfl, hsp, hba⟩ := owns_spans hownS
  have hb9 : Below w.heap.size w wS := below_grown (below_alloc1 w (.cells #[] 41)) (owns_empty (e := 41) (size := 2) (Nat.le_refl _) (heap_new rfl)) hgrowS
  have H1 := Lib.hid hsp
  have H2 := Lib.hid hba
  have H3 := Lib.hid hb9
  clear hsp hba hb9 hownS hgrowS HC9
  go_wp2_with fail
  go_ret
  exact ⟨⟨oL, cL, rfl, H1.out, H2.out⟩, H3.out⟩
/-- a town that has just been made -/
abbrev T0 : Nat → Spn := fun _ => ⟨0, 0⟩
/-- what Losses says -/
def LossP (n : Nat) (z : Nat → Zon) (w : World) (e : Ending) (w' : World) : Prop :=
  Below w.heap.size w w' ∧ ((listB n z = false ∧ e = .returned (.tuple #[.slice none 0 0, .int .i64 1])) ∨ (listB n z = true ∧ ¬ AllR z n ∧ e = .returned (.tuple #[.slice none 0 0, .int .i64 6])) ∨
    (listB n z = true ∧ AllR z n ∧ ∃ oL cL, e = .returned (.tuple #[.slice oL n cL, .int .i64 0]) ∧ SpnsAt w' oL n (dnF z n) ∧ ∀ a, oL = some a → w.heap.size ≤ a.block))
set_option maxRecDepth 100000 in
set_option maxHeartbeats 8000000 in
theorem losses_any (oa : Option Addr) (n ca : Nat) (z : Nat → Zon) (w : World) (hn : n ≤ 1000000) (hA : ZonsAt w oa n z) :
    Calls Try.prog 13 #[.slice oa n ca] w (LossP n z w) := by
  have HA := Lib.hid hA
  have HLI := Lib.hid (isList_any oa n ca z w hn hA)
  clear hA
  go_enter Try.func13, Try.ntmps13
  go_wp2_with fail
  refine HLI.out.mono ?_
  rintro e w1 ⟨rfl, hb1⟩
  have HB1 := Lib.hid hb1
  clear hb1 HLI
  cases hlb : listB n z
  · have HLB := Lib.hid hlb
    clear hlb
    go_wp2_with fail
    refine bodyPost_ret (v := .tuple #[.slice none 0 0, .int .i64 1]) (by simp [results, Try.results13, go_sem]) rfl ⟨HB1.out, .inl ⟨HLB.out, rfl⟩⟩
  · have HLB := Lib.hid hlb
    obtain ⟨hn1, hn2, hz, hok⟩ := listB_spec hlb
    have HZ := Lib.hid hz
    have HOK := Lib.hid hok
    clear hlb hz hok
    go_upto_region 4 with fail
    have hb2 := (below_alloc1 w1 (.cells #[.slice oa n ca, .int .i64 0, .int .i64 0, .int .i64 0, .int .i64 0, .int .i64 0, .int .i64 0, .int .i64 0, .int .i64 0, .int .i64 0, .int .i64 0, .int .i64 0, .int .i64 0, .int .i64 0, .int .i64 0, .int .i64 0, .int .i64 0, .int .i64 0, .int .i64 0, .int .i64 0, .int .i64 0, .int .i64 0, .int .i64 0, .int .i64 0, .int .i64 0] 66)).alloc (by simp) (.cells #[.pointer (some ⟨w1.heap.size, 0, none⟩)] 63)
    have hBT := Box.new (g := w1.heap.size + 1) #[.pointer (some ⟨w1.heap.size, 0, none⟩)] 63 (w1.alloc (.cells #[.slice oa n ca, .int .i64 0, .int .i64 0, .int .i64 0, .int .i64 0, .int .i64 0, .int .i64 0, .int .i64 0, .int .i64 0, .int .i64 0, .int .i64 0, .int .i64 0, .int .i64 0, .int .i64 0, .int .i64 0, .int .i64 0, .int .i64 0, .int .i64 0, .int .i64 0, .int .i64 0, .int .i64 0, .int .i64 0, .int .i64 0, .int .i64 0, .int .i64 0] 66)) (by simp)
    have hBX := (Box.new (g := w1.heap.size) #[.slice oa n ca, .int .i64 0, .int .i64 0, .int .i64 0, .int .i64 0, .int .i64 0, .int .i64 0, .int .i64 0, .int .i64 0, .int .i64 0, .int .i64 0, .int .i64 0, .int .i64 0, .int .i64 0, .int .i64 0, .int .i64 0, .int .i64 0, .int .i64 0, .int .i64 0, .int .i64 0, .int .i64 0, .int .i64 0, .int .i64 0, .int .i64 0, .int .i64 0] 66 w1 rfl).old (.cells #[.pointer (some ⟨w1.heap.size, 0, none⟩)] 63)
    obtain ⟨X, hX⟩ : ∃ X, X = (w1.alloc (.cells #[.slice oa n ca, .int .i64 0, .int .i64 0, .int .i64 0, .int .i64 0, .int .i64 0, .int .i64 0, .int .i64 0, .int .i64 0, .int .i64 0, .int .i64 0, .int .i64 0, .int .i64 0, .int .i64 0, .int .i64 0, .int .i64 0, .int .i64 0, .int .i64 0, .int .i64 0, .int .i64 0, .int .i64 0, .int .i64 0, .int .i64 0, .int .i64 0, .int .i64 0] 66)).alloc (.cells #[.pointer (some ⟨w1.heap.size, 0, none⟩)] 63) := ⟨_, rfl⟩
    rw [← hX] at hb2 hBT hBX ⊢
    clear hX
    have hBX : Box w1.heap.size (towC (.slice oa n ca) T0) 66 X := hBX
    obtain ⟨bt, hbt⟩ : ∃ G, G = w1.heap.size + 1 := ⟨_, rfl⟩
    rw [← hbt] at hBT ⊢
    obtain ⟨gt, hgt⟩ : ∃ G, G = w1.heap.size := ⟨_, rfl⟩
    rw [← hgt] at hBT hBX ⊢
    have HGW := Lib.hid (show w.heap.size ≤ gt ∧ gt < bt by have := HB1.out.size; omega)
    have HB2 := Lib.hid (HB1.out.trans (hb2.mono HB1.out.size))
    have HBT := Lib.hid hBT
    have HBX := Lib.hid hBX
    clear hBX hBT hb2 hbt hgt
    clear hBX
    generalize Value.agg #[Value.slice oa n ca, Value.int IntKind.i64 0, Value.int IntKind.i64 0, Value.int IntKind.i64 0, Value.int IntKind.i64 0, Value.int IntKind.i64 0, Value.int IntKind.i64 0, Value.int IntKind.i64 0, Value.int IntKind.i64 0, Value.int IntKind.i64 0, Value.int IntKind.i64 0, Value.int IntKind.i64 0, Value.int IntKind.i64 0, Value.int IntKind.i64 0, Value.int IntKind.i64 0, Value.int IntKind.i64 0, Value.int IntKind.i64 0, Value.int IntKind.i64 0, Value.int IntKind.i64 0, Value.int IntKind.i64 0, Value.int IntKind.i64 0, Value.int IntKind.i64 0, Value.int IntKind.i64 0, Value.int IntKind.i64 0, Value.int IntKind.i64 0] = tv
    have HTR := Lib.hid (try_any 34 #[.pointer (some ⟨bt, 0, none⟩)] (enters_of Try.func34 (by kernel_rfl) rfl) gt X (fun V => AllR z n ∧ ∃ T', Box gt (towC (.slice oa n ca) T') 66 V ∧ ∀ j, j < n → T' j = dnF z n j) (fun _ => ¬ AllR z n) HBX.out.lt (fun V hV => (losses1_any oa n ca z w gt bt T0 V HA.out hn2 HZ.out HOK.out HGW.out.1 HGW.out.2 (HB2.out.trans (hV.mono HB2.out.size)) (HBX.out.below hV) (HBT.out.below hV)).mono fun e V' hh => ⟨hh.1, hh.2⟩))
    go_wp2_with fail
    refine HTR.out.mono ?_
    rintro e w4 ⟨w3, hs3, hs4, ⟨rfl, hall, T', ht, hT⟩ | ⟨rfl, hno⟩⟩
    · have HALL := Lib.hid hall
      have HT := Lib.hid hT
      have HNE := Lib.hid (show gt ≠ X.heap.size ∧ bt ≠ X.heap.size ∧ gt ≠ bt by have := HBX.out.lt; have := HBT.out.lt; have := HGW.out; omega)
      have hbt4 : Box gt (towC (.slice oa n ca) T') 66 w4 := ⟨(hs4.block gt ht.lt HNE.out.1).trans ht.row⟩
      have hb34 : Box bt #[.pointer (some ⟨gt, 0, none⟩)] 63 w4 := by
        have h1 : Box bt #[.pointer (some ⟨gt, 0, none⟩)] 63 w3 := ⟨(hs3.block bt HBT.out.lt (Ne.symm HNE.out.2.2)).trans HBT.out.row⟩
        exact ⟨(hs4.block bt h1.lt HNE.out.2.1).trans h1.row⟩
      have HW4 := Lib.hid (show Below w.heap.size w w4 from by
        have h1 := HB2.out.size
        have h2 := HGW.out
        have h3 := hs3.size
        have h4 := HBX.out.lt
        exact (HB2.out.trans (hs3.below h1 fun k hk => by omega)).trans (hs4.below (Nat.le_trans h1 h3) fun k hk => by omega))
      have HSP := Lib.hid (show SpnsAt w4 (some ⟨gt, 1, none⟩) n (dnF z n) from fun j hj => ⟨gt, 1, rfl, hbt4.lt, by rw [hbt4.cell (1 + j * 2) (towC_lo (by omega)), hT j hj], by rw [hbt4.cell (1 + j * 2 + 1) (towC_hi (by omega)), hT j hj]⟩)
      have HCL := Lib.hid (clone_any gt 1 n 12 (dnF z n) w4 (by omega) HSP.out)
      have c0 := hb34.cell 0 (v := .pointer (some ⟨gt, 0, none⟩)) rfl
      have l0 := hbt4.lt
      clear hs3 hs4 hall ht hT HTR hbt4 hb34
      have hn12 : (n : Int) ≤ 12 := by omega
      go_wp2_with fail
      refine HCL.out.mono ?_
      rintro e w5 ⟨⟨oL, cL, rfl, h1, h2⟩, h3⟩
      have H1 := Lib.hid h1
      have H2 := Lib.hid h2
      have H3 := Lib.hid h3
      clear h1 h2 h3 c0 l0
      go_wp2_with fail
      refine bodyPost_ret (v := .tuple #[.slice oL n cL, .int .i64 0]) (by simp [results, Try.results13, go_sem]) rfl ⟨HW4.out.trans (H3.out.mono HW4.out.size), .inr (.inr ⟨HLB.out, HALL.out, oL, cL, rfl, H1.out, fun a ha => by have := H2.out a ha; have := HW4.out.size; omega⟩)⟩
    · have HNO := Lib.hid hno
      have HW4 := Lib.hid (show Below w.heap.size w w4 from by
        have h1 := HB2.out.size
        have h2 := HGW.out
        have h3 := hs3.size
        have h4 := HBX.out.lt
        exact (HB2.out.trans (hs3.below h1 fun k hk => by omega)).trans (hs4.below (Nat.le_trans h1 h3) fun k hk => by omega))
      clear hs3 hs4 hno HTR
      go_wp2_with fail
      refine bodyPost_ret (v := .tuple #[.slice none 0 0, .int .i64 6]) (by simp [results, Try.results13, go_sem]) rfl ⟨HW4.out, .inr (.inl ⟨HLB.out, HNO.out, rfl⟩)⟩
end Go.Proofs.Ytipnaeijbbbdoaa
