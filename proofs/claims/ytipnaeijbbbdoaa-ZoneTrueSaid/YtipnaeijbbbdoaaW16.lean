/- Zone: Leaks. -/
import Derived.Test.YtipnaeijbbbdoaaW15
namespace Go.Proofs.Ytipnaeijbbbdoaa
open Go.RowKit
/-- a night: what flows, what is used, how many hours -/
structure Nig where
  f : Spn
  u : Spn
  h : Spn
abbrev Nig.cells (x : Nig) : Array Value := #[.int .i64 x.f.lo, .int .i64 x.f.hi, .int .i64 x.u.lo, .int .i64 x.u.hi, .int .i64 x.h.lo, .int .i64 x.h.hi]
abbrev Nig.val (x : Nig) : Value := .agg x.cells
def NigsAt (w : World) (oa : Option Addr) (n : Nat) (t : Nat → Nig) : Prop :=
  ∀ i, i < n → ∃ b off, oa = some ⟨b, off, none⟩ ∧ b < w.heap.size ∧ w.cell? ⟨b, off + i * 6, none⟩ = some (.int .i64 (t i).f.lo) ∧ w.cell? ⟨b, off + i * 6 + 1, none⟩ = some (.int .i64 (t i).f.hi) ∧ w.cell? ⟨b, off + i * 6 + 1 + 1, none⟩ = some (.int .i64 (t i).u.lo) ∧ w.cell? ⟨b, off + i * 6 + 1 + 1 + 1, none⟩ = some (.int .i64 (t i).u.hi) ∧ w.cell? ⟨b, off + i * 6 + 1 + 1 + 1 + 1, none⟩ = some (.int .i64 (t i).h.lo) ∧ w.cell? ⟨b, off + i * 6 + 1 + 1 + 1 + 1 + 1, none⟩ = some (.int .i64 (t i).h.hi)
theorem NigsAt.mono {w w' : World} {oa : Option Addr} {n : Nat} {t : Nat → Nig} (h : NigsAt w oa n t) (hb : Below w.heap.size w w') : NigsAt w' oa n t := fun i hi => by
  obtain ⟨b, off, ha, hlt, h0, h1, h2, h3, h4, h5⟩ := h i hi
  exact ⟨b, off, ha, Nat.lt_of_lt_of_le hlt hb.size, (hb.cell (p := ⟨b, off + i * 6, none⟩) hlt).trans h0, (hb.cell (p := ⟨b, off + i * 6 + 1, none⟩) hlt).trans h1, (hb.cell (p := ⟨b, off + i * 6 + 1 + 1, none⟩) hlt).trans h2, (hb.cell (p := ⟨b, off + i * 6 + 1 + 1 + 1, none⟩) hlt).trans h3, (hb.cell (p := ⟨b, off + i * 6 + 1 + 1 + 1 + 1, none⟩) hlt).trans h4, (hb.cell (p := ⟨b, off + i * 6 + 1 + 1 + 1 + 1 + 1, none⟩) hlt).trans h5⟩
/-- a night that is not one -/
def nigB (x : Nig) : Bool := !(spanB x.f 0 1073741824 && (spanB x.u 0 1073741824 && spanB x.h 0 1000))
theorem nigB_spec {x : Nig} (h : nigB x = false) : (0 ≤ x.f.lo ∧ x.f.lo ≤ x.f.hi ∧ x.f.hi ≤ 1073741824) ∧ (0 ≤ x.u.lo ∧ x.u.lo ≤ x.u.hi ∧ x.u.hi ≤ 1073741824) ∧ (0 ≤ x.h.lo ∧ x.h.lo ≤ x.h.hi ∧ x.h.hi ≤ 1000) := by
  unfold nigB at h
  simp only [Bool.not_eq_false', Bool.and_eq_true, spanB, decide_eq_true_eq] at h
  exact h
theorem nigB_no {x : Nig} (h : spanB x.f 0 1073741824 = false ∨ spanB x.u 0 1073741824 = false ∨ spanB x.h 0 1000 = false) : nigB x = true := by
  unfold nigB
  rcases h with h | h | h <;> simp [h]
theorem nigB_yes {x : Nig} (h1 : spanB x.f 0 1073741824 = true) (h2 : spanB x.u 0 1073741824 = true) (h3 : spanB x.h 0 1000 = true) : nigB x = false := by
  unfold nigB
  simp [h1, h2, h3]
/-- what leaks -/
def leakS (x : Nig) : Spn := ⟨max 0 (x.f.lo - x.u.hi) * x.h.lo, max 0 (x.f.hi - x.u.lo) * x.h.hi⟩
theorem mx_pos {a b : Int} (h : b < a) : max 0 (a - b) = a - b := by omega
theorem mx_neg {a b : Int} (h : ¬ b < a) : max 0 (a - b) = 0 := by omega
theorem mul_bd {a b A B : Int} (h0 : 0 ≤ a) (h1 : a ≤ A) (h2 : 0 ≤ b) (h3 : b ≤ B) : 0 ≤ a * b ∧ a * b ≤ A * B :=
  ⟨Int.mul_nonneg h0 h2, Int.mul_le_mul h1 h3 h2 (by omega)⟩
set_option maxRecDepth 100000 in
set_option maxHeartbeats 4000000 in
theorem badNight_any (x : Nig) (w : World) :
    Calls Try.prog 43 #[x.val] w fun e w' => e = .returned (.bool (nigB x)) ∧ Below w.heap.size w w' := by
  have HN := Lib.hid (nigB_no (x := x))
  have HY := Lib.hid (nigB_yes (x := x))
  obtain ⟨res, hres⟩ : ∃ r, r = nigB x := ⟨_, rfl⟩
  rw [← hres] at HN HY ⊢
  clear hres
  obtain ⟨⟨flo, fhi⟩, ⟨ulo, uhi⟩, ⟨hlo, hhi⟩⟩ := x
  have S1 := Lib.hid (fun (W : World) => isSpan_any ⟨flo, fhi⟩ 0 1073741824 W)
  have S2 := Lib.hid (fun (W : World) => isSpan_any ⟨ulo, uhi⟩ 0 1073741824 W)
  have S3 := Lib.hid (fun (W : World) => isSpan_any ⟨hlo, hhi⟩ 0 1000 W)
  simp only at HN HY
  obtain ⟨q1, hq1⟩ : ∃ q, q = spanB ⟨flo, fhi⟩ 0 1073741824 := ⟨_, rfl⟩
  obtain ⟨q2, hq2⟩ : ∃ q, q = spanB ⟨ulo, uhi⟩ 0 1073741824 := ⟨_, rfl⟩
  obtain ⟨q3, hq3⟩ : ∃ q, q = spanB ⟨hlo, hhi⟩ 0 1000 := ⟨_, rfl⟩
  rw [← hq1] at S1 HN HY
  rw [← hq2] at S2 HN HY
  rw [← hq3] at S3 HN HY
  clear hq1 hq2 hq3
  go_enter Try.func43, Try.ntmps43
  go_upto_region 1 with fail
  have hbl := below_alloc1 w (.cells #[.int .i64 flo, .int .i64 fhi, .int .i64 ulo, .int .i64 uhi, .int .i64 hlo, .int .i64 hhi] 54)
  have hbx := Box.new (g := w.heap.size) #[.int .i64 flo, .int .i64 fhi, .int .i64 ulo, .int .i64 uhi, .int .i64 hlo, .int .i64 hhi] 54 w rfl
  obtain ⟨gz, hG⟩ : ∃ G, G = w.heap.size := ⟨_, rfl⟩
  obtain ⟨w1, hW⟩ : ∃ X, X = w.alloc (.cells #[.int .i64 flo, .int .i64 fhi, .int .i64 ulo, .int .i64 uhi, .int .i64 hlo, .int .i64 hhi] 54) := ⟨_, rfl⟩
  rw [← hW] at hbl hbx ⊢
  rw [← hG] at hbx ⊢
  have HL1 := Lib.hid hbl
  have HB1 := Lib.hid hbx
  clear hG hW hbl hbx
  have d0 := HB1.out.cell 0 (v := .int .i64 flo) rfl
  have d1 := HB1.out.cell 1 (v := .int .i64 fhi) rfl
  have d2 := HB1.out.cell 2 (v := .int .i64 ulo) rfl
  have d3 := HB1.out.cell 3 (v := .int .i64 uhi) rfl
  have d4 := HB1.out.cell 4 (v := .int .i64 hlo) rfl
  have d5 := HB1.out.cell 5 (v := .int .i64 hhi) rfl
  have d9 := HB1.out.lt
  go_wp2_with fail
  refine (S1.out _).mono ?_
  rintro e w2 ⟨rfl, hb⟩
  replace HB1 := Lib.hid (HB1.out.below hb)
  replace HL1 := Lib.hid (HL1.out.trans (hb.mono HL1.out.size))
  clear hb d0 d1 d2 d3 d4 d5 d9
  clear w1
  obtain ⟨w1, rfl⟩ : ∃ X, X = w2 := ⟨_, rfl⟩
  have d0 := HB1.out.cell 0 (v := .int .i64 flo) rfl
  have d1 := HB1.out.cell 1 (v := .int .i64 fhi) rfl
  have d2 := HB1.out.cell 2 (v := .int .i64 ulo) rfl
  have d3 := HB1.out.cell 3 (v := .int .i64 uhi) rfl
  have d4 := HB1.out.cell 4 (v := .int .i64 hlo) rfl
  have d5 := HB1.out.cell 5 (v := .int .i64 hhi) rfl
  have d9 := HB1.out.lt
  cases q1
  case false =>
    have HX := Lib.hid (HN.out (.inl rfl))
    clear d0 d1 d2 d3 d4 d5 d9 HN HY
    go_wp2_with fail
    go_ret
    exact ⟨by rw [HX.out]; rfl, HL1.out⟩
  go_wp2_with fail
  refine (S2.out _).mono ?_
  rintro e w2 ⟨rfl, hb⟩
  replace HB1 := Lib.hid (HB1.out.below hb)
  replace HL1 := Lib.hid (HL1.out.trans (hb.mono HL1.out.size))
  clear hb d0 d1 d2 d3 d4 d5 d9
  clear w1
  obtain ⟨w1, rfl⟩ : ∃ X, X = w2 := ⟨_, rfl⟩
  have d0 := HB1.out.cell 0 (v := .int .i64 flo) rfl
  have d1 := HB1.out.cell 1 (v := .int .i64 fhi) rfl
  have d2 := HB1.out.cell 2 (v := .int .i64 ulo) rfl
  have d3 := HB1.out.cell 3 (v := .int .i64 uhi) rfl
  have d4 := HB1.out.cell 4 (v := .int .i64 hlo) rfl
  have d5 := HB1.out.cell 5 (v := .int .i64 hhi) rfl
  have d9 := HB1.out.lt
  cases q2
  case false =>
    have HX := Lib.hid (HN.out (.inr (.inl rfl)))
    clear d0 d1 d2 d3 d4 d5 d9 HN HY
    go_wp2_with fail
    go_ret
    exact ⟨by rw [HX.out]; rfl, HL1.out⟩
  go_wp2_with fail
  refine (S3.out _).mono ?_
  rintro e w2 ⟨rfl, hb⟩
  replace HB1 := Lib.hid (HB1.out.below hb)
  replace HL1 := Lib.hid (HL1.out.trans (hb.mono HL1.out.size))
  clear hb d0 d1 d2 d3 d4 d5 d9
  clear w1
  obtain ⟨w1, rfl⟩ : ∃ X, X = w2 := ⟨_, rfl⟩
  have d0 := HB1.out.cell 0 (v := .int .i64 flo) rfl
  have d1 := HB1.out.cell 1 (v := .int .i64 fhi) rfl
  have d2 := HB1.out.cell 2 (v := .int .i64 ulo) rfl
  have d3 := HB1.out.cell 3 (v := .int .i64 uhi) rfl
  have d4 := HB1.out.cell 4 (v := .int .i64 hlo) rfl
  have d5 := HB1.out.cell 5 (v := .int .i64 hhi) rfl
  have d9 := HB1.out.lt
  cases q3
  case false =>
    have HX := Lib.hid (HN.out (.inr (.inr rfl)))
    clear d0 d1 d2 d3 d4 d5 d9 HN HY
    go_wp2_with fail
    go_ret
    exact ⟨by rw [HX.out]; rfl, HL1.out⟩
  have HX := Lib.hid (HY.out (by simp) (by simp) (by simp))
  clear d0 d1 d2 d3 d4 d5 d9 HN HY
  go_wp2_with fail
  go_ret
  exact ⟨by rw [HX.out]; rfl, HL1.out⟩
set_option maxHeartbeats 1000000 in
theorem indexNight_any (oa : Option Addr) (n cap : Nat) (t : Nat → Nig) (w : World) (hn : n ≤ 1000000) (hT : NigsAt w oa n t) :
    Calls Try.prog 67 #[.slice oa n cap, .func (.func 43) #[] #[]] w fun e w' => ∃ r : Int, e = .returned (.int .i64 r) ∧ (0 ≤ r ↔ anyB n (fun i => nigB (t i)) = true) ∧ Below w.heap.size w w' := by
  have HT := Lib.hid hT
  clear hT
  go_enter Try.func67, Try.ntmps67
  go_wp2
  go_loopw [5, 8] (fun v5 v8 wr => ∃ k : Nat, k ≤ n ∧ v8 = .int .i64 k ∧ Below w.heap.size w wr ∧ ∀ i, i < k → nigB (t i) = false) (fun _ i _ => n - (intOf i).toNat)
  case atStart => exact ⟨0, Nat.zero_le _, rfl, Below.refl _ _, fun i hi => by omega⟩
  case round =>
    obtain ⟨k, hk, rfl, hb0, hno⟩ := hrel
    have HNO := Lib.hid hno
    clear hno
    by_cases hlt : k < n
    · obtain ⟨b, off, rfl, hlt0, c0, c1, c2, c3, c4, c5⟩ := (HT.out.mono hb0) k hlt
      by_cases hbad : nigB (t k) = true
      · have HB := Lib.hid hbad
        go_wp2_with (go_at_call 43; refine (badNight_any (t k) _).mono ?_; rintro e w1 ⟨rfl, hb1⟩)
        go_ret
        exact ⟨k, rfl, ⟨fun _ => anyB_iff.2 ⟨k, hlt, HB.out⟩, fun _ => by omega⟩, hb0.trans (hb1.mono hb0.size)⟩
      · replace hbad : nigB (t k) = false := by simpa using hbad
        have HB := Lib.hid hbad
        go_wp2_with (go_at_call 43; refine (badNight_any (t k) _).mono ?_; rintro e w1 ⟨rfl, hb1⟩)
        go_roundw
        case rel => exact ⟨k + 1, by omega, by go_num, hb0.trans (hb1.mono hb0.size), fun i hi => by
          by_cases h : i = k
          · subst h; exact HB.out
          · exact HNO.out i (by omega)⟩
        case measure => simp [intOf]; omega
    · go_wp2
      go_ret
      exact ⟨-1, rfl, ⟨fun h => by omega, fun h => by
        obtain ⟨i, hi, hp⟩ := anyB_iff.1 h
        rw [HNO.out i (by omega)] at hp
        simp at hp⟩, hb0⟩
set_option maxHeartbeats 1000000 in
theorem containsNight_any (oa : Option Addr) (n cap : Nat) (t : Nat → Nig) (w : World) (hn : n ≤ 1000000) (hT : NigsAt w oa n t) :
    Calls Try.prog 45 #[.slice oa n cap, .func (.func 43) #[] #[]] w fun e w' => e = .returned (.bool (anyB n fun i => nigB (t i))) ∧ Below w.heap.size w w' := by
  have HT := Lib.hid hT
  clear hT
  go_enter Try.func45, Try.ntmps45
  go_wp2_with fail
  refine (indexNight_any oa n cap t _ hn HT.out).mono ?_
  rintro e w1 ⟨r, rfl, hr, hb⟩
  have HR := Lib.hid hr
  clear hr
  by_cases h0 : 0 ≤ r
  · go_wp2
    go_ret
    exact ⟨ret_bool (by rw [HR.out.1 h0]; first | done | simp | (simp; omega)), hb⟩
  · go_wp2
    go_ret
    exact ⟨ret_bool (by
      have : ¬ anyB n (fun i => nigB (t i)) = true := fun h => by have := HR.out.2 h; omega
      simp only [Bool.not_eq_true] at this
      rw [this]; first | done | (simp; done) | (simp; omega)), hb⟩
/-- what Leaks says -/
def LeakP (n m : Nat) (z : Nat → Zon) (u : Nat → Nig) (w : World) (e : Ending) (w' : World) : Prop :=
  Below w.heap.size w w' ∧ ((listB n z = false ∧ e = .returned (.tuple #[.slice none 0 0, .int .i64 1])) ∨ (listB n z = true ∧ m ≠ n ∧ e = .returned (.tuple #[.slice none 0 0, .int .i64 3])) ∨
    (listB n z = true ∧ m = n ∧ anyB n (fun i => nigB (u i)) = true ∧ e = .returned (.tuple #[.slice none 0 0, .int .i64 2])) ∨
    (listB n z = true ∧ m = n ∧ (∀ i, i < n → nigB (u i) = false) ∧ ∃ oL cL, e = .returned (.tuple #[.slice oL n cL, .int .i64 0]) ∧ SpnsAt w' oL n (fun i => leakS (u i)) ∧ ∀ a, oL = some a → w.heap.size ≤ a.block))
set_option maxRecDepth 100000 in
set_option maxHeartbeats 8000000 in
theorem leaks_any (oa ob : Option Addr) (n ca m cb : Nat) (z : Nat → Zon) (u : Nat → Nig) (w : World) (hn : n ≤ 1000000) (hm : m ≤ 1000000) (hA : ZonsAt w oa n z) (hU : NigsAt w ob m u) :
    Calls Try.prog 18 #[.slice oa n ca, .slice ob m cb] w (LeakP n m z u w) := by
  have HU := Lib.hid hU
  have HLI := Lib.hid (isList_any oa n ca z w hn hA)
  clear hA hU
  go_enter Try.func18, Try.ntmps18
  go_wp2_with fail
  refine HLI.out.mono ?_
  rintro e w1 ⟨rfl, hb1⟩
  have HB1 := Lib.hid hb1
  clear hb1 HLI
  cases hlb : listB n z
  · have HLB := Lib.hid hlb
    clear hlb
    go_wp2_with fail
    refine bodyPost_ret (v := .tuple #[.slice none 0 0, .int .i64 1]) (by simp [results, Try.results18, go_sem]) rfl ⟨HB1.out, .inl ⟨HLB.out, rfl⟩⟩
  · have HLB := Lib.hid hlb
    clear hlb
    by_cases hmn : m = n
    · subst hmn
      have HCN := Lib.hid (fun (V : World) (hV : Below w.heap.size w V) => containsNight_any ob m cb u V hm (HU.out.mono hV))
      go_wp2_with fail
      refine (HCN.out _ HB1.out).mono ?_
      rintro e w2 ⟨rfl, hb2⟩
      have HB2 := Lib.hid (HB1.out.trans (hb2.mono HB1.out.size))
      clear hb2 HB1 HCN w1
      cases hab : anyB m fun i => nigB (u i)
      · have HOK := Lib.hid (show ∀ i, i < m → nigB (u i) = false from fun i hi => by
          cases h9 : nigB (u i)
          · rfl
          · have := anyB_iff (p := fun i => nigB (u i)) |>.2 ⟨i, hi, h9⟩
            rw [hab] at this; cases this)
        clear hab
        obtain ⟨iR, hiR, hzR0, hzR1, hzR2⟩ := info_parts (P := Try.prog) (e := 41) (z := .agg #[.int .i64 0, .int .i64 0]) (size := 2) (bytes := 16) (by kernel_rfl)
        have HIR := Lib.hid hiR
        have HZR := Lib.hid (And.intro hzR0 (And.intro hzR1 hzR2))
        clear hiR hzR0 hzR1 hzR2
        obtain ⟨n, rfl⟩ : ∃ n, n = m := ⟨_, rfl⟩
        go_wp2_with fail
        go_loopw [4, 25] (fun v4 v25 wr => ∃ m : Nat, m ≤ n ∧ v25 = .int .i64 m ∧ Hid (wr.ownsRow w.heap.size 41 2 v4 m (spanNews m (fun j => leakS (u j)))) ∧ Hid (Below w.heap.size w wr)) (fun _ v25 _ => n - (intOf v25).toNat)
        case atStart => exact ⟨0, Nat.zero_le _, rfl, Lib.hid owns_none, HB2⟩
        case round =>
          obtain ⟨m, hm, rfl, HOW, HL⟩ := hrel
          by_cases hlt : m < n
          · obtain ⟨b, off, hoa, hl, c0, c1, c2, c3, c4, c5⟩ := (HU.out.mono HL.out) m hlt
            subst hoa
            have HSN := Lib.hid (show spanNews m (fun j => leakS (u j)) ++ [.int .i64 (leakS (u m)).lo, .int .i64 (leakS (u m)).hi] = spanNews (m + 1) (fun j => leakS (u j)) from (pair_news_succ _ _ _).symm)
            have HOS := Lib.hid (show leakS (u m) = ⟨max 0 ((u m).f.lo - (u m).u.hi) * (u m).h.lo, max 0 ((u m).f.hi - (u m).u.lo) * (u m).h.hi⟩ from rfl)
            have HO1 := Lib.hid (nigB_spec (HOK.out m hlt))
            have hown := HOW.out
            obtain ⟨oL, cL, rfl, -⟩ := owns_form hown
            obtain ⟨xs, hxs⟩ : ∃ l, l = spanNews m (fun j => leakS (u j)) := ⟨_, rfl⟩
            obtain ⟨ys, hys⟩ : ∃ l, l = spanNews (m + 1) (fun j => leakS (u j)) := ⟨_, rfl⟩
            rw [← hxs] at hown HOW HSN
            rw [← hys] at HSN
            have HYS := Lib.hid hys
            clear hxs hys
            obtain ⟨sx, hsx⟩ : ∃ s, s = leakS (u m) := ⟨_, rfl⟩
            rw [← hsx] at HSN HOS
            clear hsx
            obtain ⟨Z, hZ⟩ : ∃ Z, Z = u m := ⟨_, rfl⟩
            rw [← hZ] at c0 c1 c2 c3 c4 c5 HO1 HOS
            clear hZ
            obtain ⟨⟨flo, fhi⟩, ⟨ulo, uhi⟩, ⟨hlo, hhi⟩⟩ := Z
            simp only at c0 c1 c2 c3 c4 c5 HO1 HOS
            have hk0 : (0 : Int) ≤ (m : Int) := by omega
            have hk1 : (m : Int) < (n : Int) := by omega
            have HOW9 := Lib.hid hown
            clear hown HOW hlt
            go_upto_region 11 with fail
            have hbl := below_alloc1 wr (.cells #[.int .i64 flo, .int .i64 fhi, .int .i64 ulo, .int .i64 uhi, .int .i64 hlo, .int .i64 hhi] 54)
            have hbx := Box.new (g := wr.heap.size) #[.int .i64 flo, .int .i64 fhi, .int .i64 ulo, .int .i64 uhi, .int .i64 hlo, .int .i64 hhi] 54 wr rfl
            obtain ⟨gz, hG⟩ : ∃ G, G = wr.heap.size := ⟨_, rfl⟩
            obtain ⟨w2, hW⟩ : ∃ X, X = wr.alloc (.cells #[.int .i64 flo, .int .i64 fhi, .int .i64 ulo, .int .i64 uhi, .int .i64 hlo, .int .i64 hhi] 54) := ⟨_, rfl⟩
            rw [← hW] at hbl hbx ⊢
            rw [← hG] at hbx ⊢
            have HOW2 := Lib.hid (owns_below HOW9.out hbl)
            replace HL := Lib.hid (HL.out.trans (hbl.mono HL.out.size))
            have d0 := hbx.cell 0 (v := .int .i64 flo) rfl
            have d1 := hbx.cell 1 (v := .int .i64 fhi) rfl
            have d2 := hbx.cell 2 (v := .int .i64 ulo) rfl
            have d3 := hbx.cell 3 (v := .int .i64 uhi) rfl
            have d4 := hbx.cell 4 (v := .int .i64 hlo) rfl
            have d5 := hbx.cell 5 (v := .int .i64 hhi) rfl
            have d9 := hbx.lt
            clear hbl hbx hW hG HOW9 c0 c1 c2 c3 c4 c5 hl wr
            obtain ⟨⟨f1, f2, f3⟩, ⟨u1, u2, u3⟩, v1, v2, v3⟩ := HO1.out
            have hwsz := HL.out.size
            have m1 := fun (h : uhi < flo) => mul_bd (a := flo - uhi) (b := hlo) (A := 1073741824) (B := 1000) (by omega) (by omega) (by omega) (by omega)
            have m2 := fun (h : ulo < fhi) => mul_bd (a := fhi - ulo) (b := hhi) (A := 1073741824) (B := 1000) (by omega) (by omega) (by omega) (by omega)
            clear HO1
            by_cases h1 : uhi < flo
            · replace m1 := m1 h1
              by_cases h2 : ulo < fhi
              · replace m2 := m2 h2
                have HS9 := Lib.hid (show sx = ⟨(flo - uhi) * hlo, (fhi - ulo) * hhi⟩ by rw [HOS.out, mx_pos h1, mx_pos h2])
                clear HOS
                have HSN9 := Lib.hid (show xs ++ [.int .i64 ((flo - uhi) * hlo), .int .i64 ((fhi - ulo) * hhi)] = ys from by rw [← HSN.out, HS9.out])
                go_wp2_with (at_builtin; refine wpList_append_gen rfl (.tmp 29) (.tmp 55) _ rfl w.heap.size 41 iR _ 2 16 Try.underlying24 HIR.out HZR.out.1 HZR.out.2.1 HZR.out.2.2 rfl (by omega) (.slice oL m cL) m xs rfl (some ⟨w2.heap.size, 0, none⟩) 1 1 [.int .i64 ((flo - uhi) * hlo), .int .i64 ((fhi - ulo) * hhi)] rfl (HOW2.out.alloc _) (fun e9 => by cases e9) rfl (fun ad9 e9 j9 u9 hu9 => by cases e9; exact news_blk2 (e := 41) (heap_new rfl) hu9) (by simp [Value.oneCell']) (by simp only [maxLen]; omega) (by omega) (by simp; omega) ?_; intro vS wS hownS hgrowS)
                have hbS : Below w.heap.size w wS := (HL.out.alloc HL.out.size _).trans (below_row HOW2.out hgrowS HL.out.size)
                rw [HSN9.out, HYS.out] at hownS
                have HO2 := Lib.hid hownS
                have HL2 := Lib.hid hbS
                clear hownS hbS hgrowS d0 d1 d2 d3 d4 d5 d9
                go_wp2_with fail
                go_roundw
                case rel => exact ⟨m + 1, by omega, by go_num, HO2, HL2⟩
                case measure => simp [intOf]; omega
              · exact absurd h1 (by omega)
            · replace h1 : flo ≤ uhi := by omega
              clear m1
              by_cases h2 : ulo < fhi
              · replace m2 := m2 h2
                have HS9 := Lib.hid (show sx = ⟨0, (fhi - ulo) * hhi⟩ by rw [HOS.out, mx_neg (by omega), mx_pos h2, Int.zero_mul])
                clear HOS
                have HSN9 := Lib.hid (show xs ++ [.int .i64 (0), .int .i64 ((fhi - ulo) * hhi)] = ys from by rw [← HSN.out, HS9.out])
                go_wp2_with (at_builtin; refine wpList_append_gen rfl (.tmp 29) (.tmp 55) _ rfl w.heap.size 41 iR _ 2 16 Try.underlying24 HIR.out HZR.out.1 HZR.out.2.1 HZR.out.2.2 rfl (by omega) (.slice oL m cL) m xs rfl (some ⟨w2.heap.size, 0, none⟩) 1 1 [.int .i64 (0), .int .i64 ((fhi - ulo) * hhi)] rfl (HOW2.out.alloc _) (fun e9 => by cases e9) rfl (fun ad9 e9 j9 u9 hu9 => by cases e9; exact news_blk2 (e := 41) (heap_new rfl) hu9) (by simp [Value.oneCell']) (by simp only [maxLen]; omega) (by omega) (by simp; omega) ?_; intro vS wS hownS hgrowS)
                have hbS : Below w.heap.size w wS := (HL.out.alloc HL.out.size _).trans (below_row HOW2.out hgrowS HL.out.size)
                rw [HSN9.out, HYS.out] at hownS
                have HO2 := Lib.hid hownS
                have HL2 := Lib.hid hbS
                clear hownS hbS hgrowS d0 d1 d2 d3 d4 d5 d9
                go_wp2_with fail
                go_roundw
                case rel => exact ⟨m + 1, by omega, by go_num, HO2, HL2⟩
                case measure => simp [intOf]; omega
              · have HS9 := Lib.hid (show sx = ⟨0, 0⟩ by rw [HOS.out, mx_neg (by omega), mx_neg h2, Int.zero_mul, Int.zero_mul])
                clear HOS
                replace h2 : fhi ≤ ulo := by omega
                clear m2
                have HSN9 := Lib.hid (show xs ++ [.int .i64 (0), .int .i64 (0)] = ys from by rw [← HSN.out, HS9.out])
                go_wp2_with (at_builtin; refine wpList_append_gen rfl (.tmp 29) (.tmp 55) _ rfl w.heap.size 41 iR _ 2 16 Try.underlying24 HIR.out HZR.out.1 HZR.out.2.1 HZR.out.2.2 rfl (by omega) (.slice oL m cL) m xs rfl (some ⟨w2.heap.size, 0, none⟩) 1 1 [.int .i64 (0), .int .i64 (0)] rfl (HOW2.out.alloc _) (fun e9 => by cases e9) rfl (fun ad9 e9 j9 u9 hu9 => by cases e9; exact news_blk2 (e := 41) (heap_new rfl) hu9) (by simp [Value.oneCell']) (by simp only [maxLen]; omega) (by omega) (by simp; omega) ?_; intro vS wS hownS hgrowS)
                have hbS : Below w.heap.size w wS := (HL.out.alloc HL.out.size _).trans (below_row HOW2.out hgrowS HL.out.size)
                rw [HSN9.out, HYS.out] at hownS
                have HO2 := Lib.hid hownS
                have HL2 := Lib.hid hbS
                clear hownS hbS hgrowS d0 d1 d2 d3 d4 d5 d9
                go_wp2_with fail
                go_roundw
                case rel => exact ⟨m + 1, by omega, by go_num, HO2, HL2⟩
                case measure => simp [intOf]; omega
          · obtain rfl : m = n := by omega
            obtain ⟨oL, cL, rfl, hsp, hba⟩ := owns_spans HOW.out
            have H1 := Lib.hid hsp
            have H2 := Lib.hid hba
            clear hsp hba
            go_wp2_with fail
            refine bodyPost_ret (v := .tuple #[.slice oL m cL, .int .i64 0]) (by simp [results, Try.results18, go_sem]) rfl ⟨HL.out, .inr (.inr (.inr ⟨HLB.out, rfl, HOK.out, oL, cL, rfl, H1.out, H2.out⟩))⟩
      · have HAB := Lib.hid hab
        clear hab
        go_wp2_with fail
        refine bodyPost_ret (v := .tuple #[.slice none 0 0, .int .i64 2]) (by simp [results, Try.results18, go_sem]) rfl ⟨HB2.out, .inr (.inr (.inl ⟨HLB.out, rfl, HAB.out, rfl⟩))⟩
    · have hne : ((m : Int) != (n : Int)) = true := by simp; omega
      go_wp2_with fail
      refine bodyPost_ret (v := .tuple #[.slice none 0 0, .int .i64 3]) (by simp [results, Try.results18, go_sem]) rfl ⟨HB1.out, .inr (.inl ⟨HLB.out, hmn, rfl⟩)⟩
end Go.Proofs.Ytipnaeijbbbdoaa
