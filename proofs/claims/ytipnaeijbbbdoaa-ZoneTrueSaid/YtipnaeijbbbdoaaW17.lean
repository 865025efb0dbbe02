/- Zone: First. -/
import Derived.Test.YtipnaeijbbbdoaaW16
namespace Go.Proofs.Ytipnaeijbbbdoaa
open Go.RowKit
set_option maxHeartbeats 1000000 in
theorem isPart_any (x : Zon) (xb : Nat) (i : Int) (w : World) (hlt : xb < w.heap.size) (hc : w.cell? ⟨xb, 0, none⟩ = some (.int .i64 i)) :
    Calls Try.prog 48 #[x.val, .pointer (some ⟨xb, 0, none⟩)] w fun e w' => e = .returned (.bool (decide (x.p = i))) ∧ Below w.heap.size w w' := by
  obtain ⟨⟨ilo, ihi⟩, ⟨mlo, mhi⟩, ⟨elo, ehi⟩, ⟨llo, lhi⟩, p⟩ := x
  go_enter Try.func48, Try.ntmps48
  go_wp2
  go_ret
  exact ⟨ret_bool (by first | done | rfl | simp), below_alloc1 w _⟩
set_option maxHeartbeats 1000000 in
theorem indexPart_any (oa : Option Addr) (n cap : Nat) (t : Nat → Zon) (w : World) (hn : n ≤ 1000000) (hT : ZonsAt w oa n t) (x : Int) (xb : Nat) (hblk : xb < w.heap.size) (hc : w.cell? ⟨xb, 0, none⟩ = some (.int .i64 x)) :
    Calls Try.prog 68 #[.slice oa n cap, .func (.func 48) #[] #[.pointer (some ⟨xb, 0, none⟩)]] w fun e w' => ∃ r : Int, e = .returned (.int .i64 r) ∧ (0 ≤ r ↔ anyB n (fun i => decide ((t i).p = x)) = true) ∧ Below w.heap.size w w' := by
  have HT := Lib.hid hT
  clear hT
  go_enter Try.func68, Try.ntmps68
  go_wp2
  go_loopw [5, 8] (fun v5 v8 wr => ∃ k : Nat, k ≤ n ∧ v8 = .int .i64 k ∧ Below w.heap.size w wr ∧ ∀ i, i < k → decide ((t i).p = x) = false) (fun _ i _ => n - (intOf i).toNat)
  case atStart => exact ⟨0, Nat.zero_le _, rfl, Below.refl _ _, fun i hi => by omega⟩
  case round =>
    obtain ⟨k, hk, rfl, hb0, hno⟩ := hrel
    have HNO := Lib.hid hno
    clear hno
    by_cases hlt : k < n
    · obtain ⟨b, off, rfl, hlt0, c0, c1, c2, c3, c4, c5, c6, c7, c8⟩ := (HT.out.mono hb0) k hlt
      have hblk1 : xb < wr.heap.size := Nat.lt_of_lt_of_le hblk hb0.size
      have hc1 := (hb0.cell (p := ⟨xb, 0, none⟩) hblk).trans hc
      have HCP := Lib.hid (isPart_any (t k) xb x wr hblk1 hc1)
      by_cases hbad : (t k).p = x
      · have HB := Lib.hid hbad
        clear hbad hc1 hblk1
        go_wp2_with (go_at_call 48; refine HCP.out.mono ?_; rintro e w1 ⟨rfl, hb1⟩; rw [HB.out, decide_eq_true rfl])
        go_ret
        exact ⟨k, rfl, ⟨fun _ => anyB_iff.2 ⟨k, hlt, decide_eq_true HB.out⟩, fun _ => by omega⟩, hb0.trans (hb1.mono hb0.size)⟩
      · have HB := Lib.hid hbad
        clear hbad hc1 hblk1
        go_wp2_with (go_at_call 48; refine HCP.out.mono ?_; rintro e w1 ⟨rfl, hb1⟩; rw [decide_eq_false HB.out])
        go_roundw
        case rel => exact ⟨k + 1, by omega, by go_num, hb0.trans (hb1.mono hb0.size), fun i hi => by
          by_cases h : i = k
          · subst h; exact decide_eq_false HB.out
          · exact HNO.out i (by omega)⟩
        case measure => simp [intOf]; omega
    · go_wp2
      go_ret
      exact ⟨-1, rfl, ⟨fun h => by omega, fun h => by
        obtain ⟨i, hi, hp⟩ := anyB_iff.1 h
        rw [HNO.out i (by omega)] at hp
        simp at hp⟩, hb0⟩
set_option maxHeartbeats 1000000 in
theorem containsPart_any (oa : Option Addr) (n cap : Nat) (t : Nat → Zon) (w : World) (hn : n ≤ 1000000) (hT : ZonsAt w oa n t) (x : Int) (xb : Nat) (hblk : xb < w.heap.size) (hc : w.cell? ⟨xb, 0, none⟩ = some (.int .i64 x)) :
    Calls Try.prog 47 #[.slice oa n cap, .func (.func 48) #[] #[.pointer (some ⟨xb, 0, none⟩)]] w fun e w' => e = .returned (.bool (anyB n fun i => decide ((t i).p = x))) ∧ Below w.heap.size w w' := by
  have HT := Lib.hid hT
  clear hT
  go_enter Try.func47, Try.ntmps47
  go_wp2_with fail
  refine (indexPart_any oa n cap t _ hn HT.out x xb hblk hc).mono ?_
  rintro e w1 ⟨r, rfl, hr, hb⟩
  have HR := Lib.hid hr
  clear hr
  by_cases h0 : 0 ≤ r
  · go_wp2
    go_ret
    exact ⟨ret_bool (by rw [HR.out.1 h0]; first | done | simp | (simp; omega)), hb⟩
  · go_wp2
    go_ret
    exact ⟨ret_bool (by
      have : ¬ anyB n (fun i => decide ((t i).p = x)) = true := fun h => by have := HR.out.2 h; omega
      simp only [Bool.not_eq_true] at this
      rw [this]; first | done | (simp; done) | (simp; omega)), hb⟩
/-- a zone that has no parts -/
def Leaf (z : Nat → Zon) (n i : Nat) : Prop := ∀ c, c < n → (z c).p ≠ (i : Int)
theorem leaf_no {z : Nat → Zon} {n i : Nat} : (anyB n fun c => decide ((z c).p = (i : Int))) = false ↔ Leaf z n i := by
  rw [← Bool.not_eq_true, anyB_iff]
  constructor
  · intro h c hc hp
    exact h ⟨c, hc, decide_eq_true hp⟩
  · rintro h ⟨c, hc, hp⟩
    exact h c hc (of_decide_eq_true hp)
/-- what a zone is known to lose by night and day -/
def knV (D L : Spn) : Int := max D.lo (min L.lo D.hi)
/-- which zone is searched first, of the first k -/
def FstS (leaf : Nat → Prop) (v : Nat → Int) (k : Nat) (most x c : Int) : Prop :=
  (most = 0 ∧ x = 0 ∧ c = 4 ∧ ∀ i, i < k → leaf i → v i ≤ 0) ∨
  (c = 0 ∧ ∃ y : Nat, y < k ∧ x = (y : Int) ∧ leaf y ∧ v y = most ∧ 0 < most ∧ (∀ i, i < k → leaf i → v i ≤ most) ∧ ∀ i, i < y → leaf i → v i < most)
theorem FstS.zero (leaf : Nat → Prop) (v : Nat → Int) : FstS leaf v 0 0 0 4 := .inl ⟨rfl, rfl, rfl, fun i hi => by omega⟩
theorem FstS.most0 {leaf : Nat → Prop} {v : Nat → Int} {k : Nat} {most x c : Int} (h : FstS leaf v k most x c) : 0 ≤ most := by
  rcases h with ⟨h, _⟩ | ⟨_, y, _, _, _, _, h, _⟩ <;> omega
theorem FstS.skip {leaf : Nat → Prop} {v : Nat → Int} {k : Nat} {most x c : Int} (h : FstS leaf v k most x c) (hk : leaf k → v k ≤ most) : FstS leaf v (k + 1) most x c := by
  rcases h with ⟨h1, h2, h3, h4⟩ | ⟨h1, y, h2, h3, h4, h5, h6, h7, h8⟩
  · refine .inl ⟨h1, h2, h3, fun i hi hl => ?_⟩
    by_cases h : i = k
    · subst h; have := hk hl; omega
    · exact h4 i (by omega) hl
  · refine .inr ⟨h1, y, by omega, h3, h4, h5, h6, fun i hi hl => ?_, h8⟩
    by_cases h : i = k
    · subst h; exact hk hl
    · exact h7 i (by omega) hl
theorem FstS.take {leaf : Nat → Prop} {v : Nat → Int} {k : Nat} {most x c : Int} (h : FstS leaf v k most x c) (hl : leaf k) (hk : most < v k) : FstS leaf v (k + 1) (v k) k 0 := by
  have h0 := h.most0
  have hle : ∀ i, i < k → leaf i → v i ≤ most := by
    rcases h with ⟨h1, h2, h3, h4⟩ | ⟨h1, y, h2, h3, h4, h5, h6, h7, h8⟩
    · intro i hi hl; have := h4 i hi hl; omega
    · exact h7
  refine .inr ⟨rfl, k, by omega, rfl, hl, rfl, by omega, fun i hi hl => ?_, fun i hi hl => ?_⟩
  · by_cases h : i = k
    · subst h; omega
    · have := hle i (by omega) hl; omega
  · have := hle i hi hl; omega
/-- why Leaks says nothing -/
def leakC (n m : Nat) (z : Nat → Zon) (u : Nat → Nig) : Int := if listB n z = false then 1 else if m ≠ n then 3 else if (anyB n fun i => nigB (u i)) = true then 2 else 0
theorem leakP_cases {n m : Nat} {z : Nat → Zon} {u : Nat → Nig} {w w' : World} {e : Ending} (h : LeakP n m z u w e w') :
    Below w.heap.size w w' ∧ ((leakC n m z u ≠ 0 ∧ 0 ≤ leakC n m z u ∧ leakC n m z u ≤ 3 ∧ e = .returned (.tuple #[.slice none 0 0, .int .i64 (leakC n m z u)])) ∨
      (leakC n m z u = 0 ∧ listB n z = true ∧ m = n ∧ (∀ i, i < n → nigB (u i) = false) ∧ ∃ oL cL, e = .returned (.tuple #[.slice oL n cL, .int .i64 0]) ∧ SpnsAt w' oL n (fun i => leakS (u i)) ∧ ∀ a, oL = some a → w.heap.size ≤ a.block)) := by
  obtain ⟨hb, ⟨h1, rfl⟩ | ⟨h1, h2, rfl⟩ | ⟨h1, h2, h3, rfl⟩ | ⟨h1, h2, h3, h4⟩⟩ := h
  · have e : leakC n m z u = 1 := by unfold leakC; rw [if_pos h1]
    exact ⟨hb, .inl ⟨by omega, by omega, by omega, by rw [e]⟩⟩
  · have e : leakC n m z u = 3 := by unfold leakC; rw [if_neg (by rw [h1]; simp), if_pos h2]
    exact ⟨hb, .inl ⟨by omega, by omega, by omega, by rw [e]⟩⟩
  · have e : leakC n m z u = 2 := by unfold leakC; rw [if_neg (by rw [h1]; simp), if_neg (by omega), if_pos h3]
    exact ⟨hb, .inl ⟨by omega, by omega, by omega, by rw [e]⟩⟩
  · have e : leakC n m z u = 0 := by
      unfold leakC; rw [if_neg (by rw [h1]; simp), if_neg (by omega), if_neg]
      rw [anyB_iff]
      rintro ⟨i, hi, h5⟩
      rw [h3 i hi] at h5; cases h5
    exact ⟨hb, .inr ⟨e, h1, h2, h3, h4⟩⟩
/-- what First says -/
def FirstP (n m : Nat) (z : Nat → Zon) (u : Nat → Nig) (w : World) (e : Ending) (w' : World) : Prop :=
  Below w.heap.size w w' ∧ ((leakC n m z u ≠ 0 ∧ e = .returned (.tuple #[.int .i64 0, .int .i64 (leakC n m z u)])) ∨ (leakC n m z u = 0 ∧ ¬ AllR z n ∧ e = .returned (.tuple #[.int .i64 0, .int .i64 6])) ∨
    (leakC n m z u = 0 ∧ AllR z n ∧ ∃ most x c, e = .returned (.tuple #[.int .i64 x, .int .i64 c]) ∧ FstS (Leaf z n) (fun i => knV (dnF z n i) (leakS (u i))) n most x c))
theorem if_min (a b : Int) : (if a < b then a else b) = min a b := by split <;> omega
set_option maxRecDepth 100000 in
set_option maxHeartbeats 8000000 in
theorem first_any (oa ob : Option Addr) (n ca m cb : Nat) (z : Nat → Zon) (u : Nat → Nig) (w : World) (hn : n ≤ 1000000) (hm : m ≤ 1000000) (hA : ZonsAt w oa n z) (hU : NigsAt w ob m u) :
    Calls Try.prog 20 #[.slice oa n ca, .slice ob m cb] w (FirstP n m z u w) := by
  have HA := Lib.hid hA
  have HLK := Lib.hid (leaks_any oa ob n ca m cb z u w hn hm hA hU)
  have HLS := Lib.hid (fun (V : World) (hV : Below w.heap.size w V) => losses_any oa n ca z V hn (hA.mono hV))
  clear hA hU
  go_enter Try.func20, Try.ntmps20
  go_wp2_with fail
  refine HLK.out.mono ?_
  intro e w1 hp
  obtain ⟨hb1, ⟨hc, hc0, hc3, rfl⟩ | ⟨hc, hlb, hmn, hok, oL, cL, rfl, hsp, hba⟩⟩ := leakP_cases hp
  · have HC := Lib.hid hc
    have HB1 := Lib.hid hb1
    clear hp hb1 hc HLK HLS
    have hne : (leakC n m z u != 0) = true := by simpa using HC.out
    obtain ⟨c, hcc⟩ : ∃ c, c = leakC n m z u := ⟨_, rfl⟩
    rw [← hcc] at hne hc0 hc3 ⊢
    have HCC := Lib.hid hcc
    clear hcc
    go_wp2_with fail
    refine bodyPost_ret (v := .tuple #[.int .i64 0, .int .i64 c]) (by simp [results, Try.results20, go_sem]) rfl ⟨HB1.out, .inl ⟨HC.out, by rw [HCC.out]⟩⟩
  · have HC := Lib.hid hc
    have HB1 := Lib.hid hb1
    have HSP := Lib.hid hsp
    have HMN := Lib.hid hmn
    have HOK := Lib.hid hok
    obtain ⟨hn1, hn2, -, -⟩ := listB_spec hlb
    have HLB := Lib.hid hlb
    clear hp hb1 hc hlb hsp hba HLK hmn hok
    go_wp2_with fail
    refine (HLS.out _ HB1.out).mono ?_
    rintro e w2 ⟨hb2, ⟨hl, rfl⟩ | ⟨hl, hr, rfl⟩ | ⟨hl, hr, oD, cD, rfl, hsd, -⟩⟩
    · rw [HLB.out] at hl; cases hl
    · have HR := Lib.hid hr
      have HB2 := Lib.hid (HB1.out.trans (hb2.mono HB1.out.size))
      clear hl hr hb2
      go_wp2_with fail
      refine bodyPost_ret (v := .tuple #[.int .i64 0, .int .i64 6]) (by simp [results, Try.results20, go_sem]) rfl ⟨HB2.out, .inr (.inl ⟨HC.out, HR.out, rfl⟩)⟩
    · have HR := Lib.hid hr
      have HB2 := Lib.hid (HB1.out.trans (hb2.mono HB1.out.size))
      have HSD := Lib.hid hsd
      replace HSP := Lib.hid (HSP.out.mono hb2)
      clear hl hr hb2 HLS hsd HB1 w1
      go_wp2_with fail
      go_loopw [4, 5, 8, 31] (fun v4 v5 v8 v31 wr => ∃ (k : Nat) (x c most : Int), k ≤ n ∧ v31 = .int .i64 k ∧ v4 = .int .i64 x ∧ v5 = .int .i64 c ∧ v8 = .int .i64 most ∧ Hid (FstS (Leaf z n) (fun i => knV (dnF z n i) (leakS (u i))) k most x c) ∧ Hid (Below w2.heap.size w2 wr)) (fun _ _ _ v31 _ => n - (intOf v31).toNat)
      case atStart => exact ⟨0, 0, 4, 0, Nat.zero_le _, rfl, rfl, rfl, rfl, Lib.hid (FstS.zero _ _), Lib.hid (Below.refl _ _)⟩
      case round =>
        obtain ⟨k, x, c, most, hk, rfl, rfl, rfl, rfl, HF, HL⟩ := hrel
        by_cases hlt : k < n
        · obtain ⟨b, off, hoD, hl, c0, c1⟩ := (HSD.out.mono HL.out) k hlt
          subst hoD
          obtain ⟨b2, off2, hoL, hl2, e0, e1⟩ := (HSP.out.mono HL.out) k hlt
          subst hoL
          have HSK := Lib.hid (fun h => HF.out.skip (k := k) h)
          have HTK := Lib.hid (fun h1 h2 => HF.out.take (k := k) h1 h2)
          have HKV := Lib.hid (show knV (dnF z n k) (leakS (u k)) = max (dnF z n k).lo (min (leakS (u k)).lo (dnF z n k).hi) from rfl)
          obtain ⟨D, hD⟩ : ∃ D, D = dnF z n k := ⟨_, rfl⟩
          obtain ⟨L, hL⟩ : ∃ L, L = leakS (u k) := ⟨_, rfl⟩
          obtain ⟨V, hV⟩ : ∃ V, V = knV (dnF z n k) (leakS (u k)) := ⟨_, rfl⟩
          simp only at HSK HTK e0 e1
          rw [← hV] at HSK HTK HKV
          rw [← hD] at c0 c1 HKV
          rw [← hL] at e0 HKV
          have hm0 := HF.out.most0
          clear hD hV hL HF e1
          obtain ⟨dlo, dhi⟩ := D
          obtain ⟨llo, lhi⟩ := L
          simp only at c0 c1 e0 HKV
          have hk0 : (0 : Int) ≤ (k : Int) := by omega
          have hk1 : (k : Int) < (n : Int) := by omega
          go_upto_region 11 with fail
          have hb0 := (below_alloc1 wr (.cells #[.int .i64 k] 3)).alloc (by simp) (.cells #[.int .i64 dlo, .int .i64 dhi] 41)
          have hB := (Box.new (g := wr.heap.size) #[.int .i64 k] 3 wr rfl).old (.cells #[.int .i64 dlo, .int .i64 dhi] 41)
          have hS := Box.new (g := wr.heap.size + 1) #[.int .i64 dlo, .int .i64 dhi] 41 (wr.alloc (.cells #[.int .i64 k] 3)) (by simp)
          obtain ⟨W, hW⟩ : ∃ X, X = (wr.alloc (.cells #[.int .i64 k] 3)).alloc (.cells #[.int .i64 dlo, .int .i64 dhi] 41) := ⟨_, rfl⟩
          rw [← hW] at hb0 hB hS ⊢
          clear hW
          have HE := Lib.hid (show ∀ V, Below W.heap.size W V → b2 < V.heap.size ∧ V.cell? ⟨b2, off2 + k * 2, none⟩ = some (.int .i64 llo) from fun V hV => by
            have h9 : Below wr.heap.size wr V := hb0.trans (hV.mono hb0.size)
            exact ⟨Nat.lt_of_lt_of_le hl2 h9.size, (h9.cell (p := ⟨b2, off2 + k * 2, none⟩) hl2).trans e0⟩)
          obtain ⟨gs, hgs⟩ : ∃ G, G = wr.heap.size + 1 := ⟨_, rfl⟩
          rw [← hgs] at hS ⊢
          obtain ⟨gk, hgk⟩ : ∃ G, G = wr.heap.size := ⟨_, rfl⟩
          rw [← hgk] at hB ⊢
          replace HL := Lib.hid (HL.out.trans (hb0.mono HL.out.size))
          have HB := Lib.hid hB
          have HS := Lib.hid hS
          have HCT := Lib.hid (containsPart_any oa n ca z W hn (HA.out.mono (HB2.out.trans (HL.out.mono HB2.out.size))) k gk hB.lt (hB.cell 0 rfl))
          clear hb0 hB hS hgk hgs c0 c1 e0 hl hl2 wr
          go_wp2_with fail
          refine HCT.out.mono ?_
          rintro e w4 ⟨rfl, hb4⟩
          have HL4 := Lib.hid (HL.out.trans (hb4.mono HL.out.size))
          replace HB := Lib.hid (HB.out.below hb4)
          replace HS := Lib.hid (HS.out.below hb4)
          replace HE := Lib.hid (show ∀ V, Below w4.heap.size w4 V → b2 < V.heap.size ∧ V.cell? ⟨b2, off2 + k * 2, none⟩ = some (.int .i64 llo) from fun V hV => HE.out V (hb4.trans (hV.mono hb4.size)))
          clear hb4 HCT HL
          cases hcp : anyB n fun i => decide ((z i).p = (k : Int))
          · have HLF := Lib.hid (leaf_no.1 hcp)
            clear hcp
            go_upto_region 12 with fail
            have q0 : ∀ V : Aft w4, V.val.cell? ⟨gk, 0, none⟩ = some (.int .i64 k) := fun V => (HB.out.below V.below).cell 0 rfl
            have q1 : ∀ V : Aft w4, V.val.cell? ⟨gs, 0, none⟩ = some (.int .i64 dlo) := fun V => (HS.out.below V.below).cell 0 rfl
            have q2 : ∀ V : Aft w4, V.val.cell? ⟨gs, 1, none⟩ = some (.int .i64 dhi) := fun V => (HS.out.below V.below).cell 1 rfl
            have q3 : ∀ V : Aft w4, V.val.cell? ⟨b2, off2 + k * 2, none⟩ = some (.int .i64 llo) := fun V => (HE.out V.val V.below).2
            have q4 : ∀ V : Aft w4, gk < V.val.heap.size := fun V => (HB.out.below V.below).lt
            have q5 : ∀ V : Aft w4, gs < V.val.heap.size := fun V => (HS.out.below V.below).lt
            have q6 : ∀ V : Aft w4, b2 < V.val.heap.size := fun V => (HE.out V.val V.below).1
            refine wp_region_aft (by kernel_rfl) (by kernel_rfl) ?_
            repeat (go_big_quiet_step (fail))
            refine wpQuiet_nil ?_
            intro WA
            obtain ⟨wy, hwy⟩ : ∃ X, X = WA.val := ⟨_, rfl⟩
            have hby := WA.below
            rw [← hwy] at hby ⊢
            clear hwy WA
            replace HL4 := Lib.hid (HL4.out.trans (hby.mono HL4.out.size))
            replace HB := Lib.hid (HB.out.below hby)
            obtain ⟨mn, hmn⟩ : ∃ x, x = (if dhi < llo then dhi else llo) := ⟨_, rfl⟩
            rw [← hmn]
            have hv : (if dlo < mn then mn else dlo) = V := by rw [HKV.out, hmn]; split <;> split <;> omega
            rw [hv]
            clear hv hmn q0 q1 q2 q3 q4 q5 q6 hby HS HE HKV w4
            have q0 := HB.out.cell 0 (v := .int .i64 k) rfl
            have q4 := HB.out.lt
            by_cases hgt : most < V
            · have HF2 := Lib.hid (HTK.out HLF.out hgt)
              clear HSK HTK
              go_wp2_with fail
              go_roundw
              case rel => exact ⟨k + 1, k, 0, V, by omega, by go_num, rfl, rfl, rfl, HF2, HL4⟩
              case measure => simp [intOf]; omega
            · have HF2 := Lib.hid (HSK.out fun _ => by omega)
              clear HSK HTK
              go_wp2_with fail
              go_roundw
              case rel => exact ⟨k + 1, x, c, most, by omega, by go_num, rfl, rfl, rfl, HF2, HL4⟩
              case measure => simp [intOf]; omega
          · have HNL := Lib.hid (show ¬ Leaf z n k from fun h => by rw [leaf_no.2 h] at hcp; cases hcp)
            clear hcp
            go_wp2_with fail
            go_roundw
            case rel => exact ⟨k + 1, x, c, most, by omega, by go_num, rfl, rfl, rfl, Lib.hid (HSK.out fun h => absurd h HNL.out), HL4⟩
            case measure => simp [intOf]; omega
        · obtain rfl : k = n := by omega
          go_wp2_with fail
          have HFS := Lib.hid HF.out
          refine bodyPost_ret (v := .tuple #[.int .i64 x, .int .i64 c]) (by simp [results, Try.results20, go_sem]) rfl ⟨HB2.out.trans (HL.out.mono HB2.out.size), .inr (.inr ⟨HC.out, HR.out, most, x, c, rfl, HFS.out⟩)⟩
end Go.Proofs.Ytipnaeijbbbdoaa
