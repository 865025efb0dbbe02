/- Zone: own spans; two lists of spans the same; which lists the document takes. -/
import Derived.Test.YtipnaeijbbbdoaaW13
import Derived.Laws.StructEq
namespace Go.Proofs.Ytipnaeijbbbdoaa
open Go.RowKit
/-- the own span, as it is told -/
def ownS (z : Zon) : Spn := if z.own.lo ≤ z.own.hi then z.own else ⟨1, 0⟩
/-- what Own says -/
def OwnP (n : Nat) (z : Nat → Zon) (w : World) (e : Ending) (w' : World) : Prop :=
  Below w.heap.size w w' ∧ ((listB n z = false ∧ e = .returned (.tuple #[.slice none 0 0, .int .i64 1])) ∨
    (listB n z = true ∧ ∃ oL cL, e = .returned (.tuple #[.slice oL n cL, .int .i64 0]) ∧ SpnsAt w' oL n (fun i => ownS (z i)) ∧ ∀ a, oL = some a → w.heap.size ≤ a.block))
set_option maxRecDepth 100000 in
set_option maxHeartbeats 8000000 in
theorem own_any (oa : Option Addr) (n ca : Nat) (z : Nat → Zon) (w : World) (hn : n ≤ 1000000) (hA : ZonsAt w oa n z) :
    Calls Try.prog 11 #[.slice oa n ca] w (OwnP n z w) := by
  have HA := Lib.hid hA
  have HLI := Lib.hid (isList_any oa n ca z w hn hA)
  clear hA
  go_enter Try.func11, Try.ntmps11
  go_wp2_with fail
  refine HLI.out.mono ?_
  rintro e w1 ⟨rfl, hb1⟩
  have HB1 := Lib.hid hb1
  clear hb1 HLI
  cases hlb : listB n z
  · have HLB := Lib.hid hlb
    clear hlb
    go_wp2_with fail
    refine bodyPost_ret (v := .tuple #[.slice none 0 0, .int .i64 1]) (by simp [results, Try.results11, go_sem]) rfl ⟨HB1.out, .inl ⟨HLB.out, rfl⟩⟩
  · have HLB := Lib.hid hlb
    obtain ⟨hn1, hn2, -, hok⟩ := listB_spec hlb
    have HOK := Lib.hid hok
    clear hlb hok
    obtain ⟨iR, hiR, hzR0, hzR1, hzR2⟩ := info_parts (P := Try.prog) (e := 41) (z := .agg #[.int .i64 0, .int .i64 0]) (size := 2) (bytes := 16) (by kernel_rfl)
    have HIR := Lib.hid hiR
    have HZR := Lib.hid (And.intro hzR0 (And.intro hzR1 hzR2))
    clear hiR hzR0 hzR1 hzR2
    go_wp2_with fail
    go_loopw [2, 12] (fun v2 v12 wr => ∃ m : Nat, m ≤ n ∧ v12 = .int .i64 m ∧ Hid (wr.ownsRow w.heap.size 41 2 v2 m (spanNews m (fun j => ownS (z j)))) ∧ Hid (Below w.heap.size w wr)) (fun _ v12 _ => n - (intOf v12).toNat)
    case atStart => exact ⟨0, Nat.zero_le _, rfl, Lib.hid owns_none, HB1⟩
    case round =>
      obtain ⟨m, hm, rfl, HOW, HL⟩ := hrel
      by_cases hlt : m < n
      · obtain ⟨b, off, hoa, hl, c0, c1, c2, c3, c4, c5, c6, c7, c8⟩ := (HA.out.mono HL.out) m hlt
        subst hoa
        have HSN := Lib.hid (show spanNews m (fun j => ownS (z j)) ++ [.int .i64 (ownS (z m)).lo, .int .i64 (ownS (z m)).hi] = spanNews (m + 1) (fun j => ownS (z j)) from (pair_news_succ _ _ _).symm)
        have HOS := Lib.hid (show ownS (z m) = if (z m).own.lo ≤ (z m).own.hi then (z m).own else ⟨1, 0⟩ from rfl)
        have HO1 := Lib.hid (fun (V : World) => ownOf_any (z m) V (HOK.out m hlt))
        have hown := HOW.out
        obtain ⟨oL, cL, rfl, -⟩ := owns_form hown
        obtain ⟨xs, hxs⟩ : ∃ l, l = spanNews m (fun j => ownS (z j)) := ⟨_, rfl⟩
        obtain ⟨ys, hys⟩ : ∃ l, l = spanNews (m + 1) (fun j => ownS (z j)) := ⟨_, rfl⟩
        rw [← hxs] at hown HOW HSN
        rw [← hys] at HSN
        have HYS := Lib.hid hys
        clear hxs hys
        obtain ⟨sx, hsx⟩ : ∃ s, s = ownS (z m) := ⟨_, rfl⟩
        rw [← hsx] at HSN HOS
        clear hsx
        obtain ⟨ox, hox⟩ : ∃ s, s = (z m).own := ⟨_, rfl⟩
        rw [← hox] at HOS HO1
        clear hox
        obtain ⟨Z, hZ⟩ : ∃ Z, Z = z m := ⟨_, rfl⟩
        rw [← hZ] at c0 c1 c2 c3 c4 c5 c6 c7 c8 HO1
        clear hZ
        obtain ⟨⟨ilo, ihi⟩, ⟨mlo, mhi⟩, ⟨elo, ehi⟩, ⟨llo, lhi⟩, p⟩ := Z
        simp only at c0 c1 c2 c3 c4 c5 c6 c7 c8
        have hk0 : (0 : Int) ≤ (m : Int) := by omega
        have hk1 : (m : Int) < (n : Int) := by omega
        have HOW9 := Lib.hid hown
        clear hown HOW hlt
        go_upto_region 6 with fail
        have hbl := below_alloc1 wr (.cells #[.int .i64 ilo, .int .i64 ihi, .int .i64 mlo, .int .i64 mhi, .int .i64 elo, .int .i64 ehi, .int .i64 llo, .int .i64 lhi, .int .i64 p] 48)
        have hbx := Box.new (g := wr.heap.size) #[.int .i64 ilo, .int .i64 ihi, .int .i64 mlo, .int .i64 mhi, .int .i64 elo, .int .i64 ehi, .int .i64 llo, .int .i64 lhi, .int .i64 p] 48 wr rfl
        obtain ⟨gz, hG⟩ : ∃ G, G = wr.heap.size := ⟨_, rfl⟩
        obtain ⟨w2, hW⟩ : ∃ X, X = wr.alloc (.cells #[.int .i64 ilo, .int .i64 ihi, .int .i64 mlo, .int .i64 mhi, .int .i64 elo, .int .i64 ehi, .int .i64 llo, .int .i64 lhi, .int .i64 p] 48) := ⟨_, rfl⟩
        rw [← hW] at hbl hbx ⊢
        rw [← hG] at hbx ⊢
        have HOW2 := Lib.hid (owns_below HOW9.out hbl)
        replace HL := Lib.hid (HL.out.trans (hbl.mono HL.out.size))
        have d0 := hbx.cell 0 (v := .int .i64 ilo) rfl
        have d1 := hbx.cell 1 (v := .int .i64 ihi) rfl
        have d2 := hbx.cell 2 (v := .int .i64 mlo) rfl
        have d3 := hbx.cell 3 (v := .int .i64 mhi) rfl
        have d4 := hbx.cell 4 (v := .int .i64 elo) rfl
        have d5 := hbx.cell 5 (v := .int .i64 ehi) rfl
        have d6 := hbx.cell 6 (v := .int .i64 llo) rfl
        have d7 := hbx.cell 7 (v := .int .i64 lhi) rfl
        have d8 := hbx.cell 8 (v := .int .i64 p) rfl
        have d9 := hbx.lt
        clear hbl hbx hW hG HOW9 c0 c1 c2 c3 c4 c5 c6 c7 c8 hl wr
        go_wp2_with fail
        refine (HO1.out _).mono ?_
        rintro e w3 ⟨rfl, hb3⟩
        replace HOW2 := Lib.hid (owns_below HOW2.out hb3)
        replace HL := Lib.hid (HL.out.trans (hb3.mono HL.out.size))
        clear hb3 d0 d1 d2 d3 d4 d5 d6 d7 d8 d9 HO1 w2
        obtain ⟨olo, ohi⟩ := ox
        go_upto_region 7 with fail
        have hbl := below_alloc1 w3 (.cells #[.int .i64 olo, .int .i64 ohi] 41)
        have hbx := Box.new (g := w3.heap.size) #[.int .i64 olo, .int .i64 ohi] 41 w3 rfl
        obtain ⟨gs, hG⟩ : ∃ G, G = w3.heap.size := ⟨_, rfl⟩
        obtain ⟨w4, hW⟩ : ∃ X, X = w3.alloc (.cells #[.int .i64 olo, .int .i64 ohi] 41) := ⟨_, rfl⟩
        rw [← hW] at hbl hbx ⊢
        rw [← hG] at hbx ⊢
        have HGS := Lib.hid (show w.heap.size ≤ gs by have := HL.out.size; omega)
        have HGN := Lib.hid (show ∀ b9, (Value.slice oL m cL).ownBlock = some b9 → b9 ≠ gs from fun b9 e9 => by have := (HOW2.out.lt b9 e9).2; omega)
        replace HOW2 := Lib.hid (owns_below HOW2.out hbl)
        replace HL := Lib.hid (HL.out.trans (hbl.mono HL.out.size))
        have HBS := Lib.hid hbx
        clear hbl hbx hW hG w3
        have s0 := HBS.out.cell 0 (v := .int .i64 olo) rfl
        have s1 := HBS.out.cell 1 (v := .int .i64 ohi) rfl
        have s2 := HBS.out.frozen 0
        have s3 := HBS.out.frozen 1
        have s4 := HBS.out.lt
        by_cases hle : olo ≤ ohi
        · have HS9 := Lib.hid (show sx = ⟨olo, ohi⟩ by rw [HOS.out, if_pos hle])
          clear HOS
          go_upto_region 9 with fail
          obtain ⟨slo, hslo⟩ : ∃ x, x = olo := ⟨_, rfl⟩
          obtain ⟨shi, hshi⟩ : ∃ x, x = ohi := ⟨_, rfl⟩
          rw [← hslo, ← hshi] at HS9 HBS
          clear hslo hshi s0 s1 s2 s3 s4 hle
          have s0 := HBS.out.cell 0 (v := .int .i64 slo) rfl
          have s1 := HBS.out.cell 1 (v := .int .i64 shi) rfl
          have s4 := HBS.out.lt
          have hwsz := HL.out.size
          rw [HS9.out] at HSN
          simp only at HSN
          clear HS9
          go_wp2_with (at_builtin; refine wpList_append_gen rfl (.tmp 24) (.tmp 26) _ rfl w.heap.size 41 iR _ 2 16 Try.underlying24 HIR.out HZR.out.1 HZR.out.2.1 HZR.out.2.2 rfl (by omega) (.slice oL m cL) m xs rfl (some ⟨w4.heap.size, 0, none⟩) 1 1 [.int .i64 slo, .int .i64 shi] rfl (HOW2.out.alloc _) (fun e9 => by cases e9) rfl (fun ad9 e9 j9 u9 hu9 => by cases e9; exact news_blk2 (e := 41) (heap_new rfl) hu9) (by simp [Value.oneCell']) (by simp only [maxLen]; omega) (by omega) (by simp; omega) ?_; intro vS wS hownS hgrowS)
          have hbS : Below w.heap.size w wS := (HL.out.alloc HL.out.size _).trans (below_row HOW2.out hgrowS HL.out.size)
          rw [HSN.out, HYS.out] at hownS
          have HO2 := Lib.hid hownS
          have HL2 := Lib.hid hbS
          clear hownS hbS hgrowS s0 s1 s4
          go_wp2_with fail
          go_roundw
          case rel => exact ⟨m + 1, by omega, by go_num, HO2, HL2⟩
          case measure => simp [intOf]; omega
        · have HS9 := Lib.hid (show sx = ⟨1, 0⟩ by rw [HOS.out, if_neg hle])
          clear HOS
          have hgt : ohi < olo := by omega
          clear hle
          go_upto_region 9 with fail
          clear s0 s1 s2 s3 s4 hgt
          replace HOW2 := Lib.hid (owns_set (i := 1) (u := .int .i64 0) (owns_set (i := 0) (u := .int .i64 1) HOW2.out HGN.out) HGN.out)
          replace HBS := Lib.hid (HBS.out.set2 (.int .i64 1) (.int .i64 0))
          replace HL := Lib.hid ((HL.out.setCell (p := ⟨gs, 0, none⟩) HGS.out (.int .i64 1)).setCell (p := ⟨gs, 1, none⟩) HGS.out (.int .i64 0))
          obtain ⟨w5, hW⟩ : ∃ X, X = (w4.setCell ⟨gs, 0, none⟩ (.int .i64 1)).setCell ⟨gs, 1, none⟩ (.int .i64 0) := ⟨_, rfl⟩
          rw [← hW] at HOW2 HBS HL ⊢
          clear hW
          obtain ⟨slo, hslo⟩ : ∃ x : Int, x = 1 := ⟨_, rfl⟩
          obtain ⟨shi, hshi⟩ : ∃ x : Int, x = 0 := ⟨_, rfl⟩
          replace HBS := Lib.hid (show Box gs #[.int .i64 slo, .int .i64 shi] 41 w5 by rw [hslo, hshi]; exact HBS.out)
          replace HS9 := Lib.hid (show sx = ⟨slo, shi⟩ by rw [hslo, hshi]; exact HS9.out)
          clear hslo hshi w4
          obtain ⟨w4, rfl⟩ : ∃ X, X = w5 := ⟨_, rfl⟩
          have s0 := HBS.out.cell 0 (v := .int .i64 slo) rfl
          have s1 := HBS.out.cell 1 (v := .int .i64 shi) rfl
          have s4 := HBS.out.lt
          have hwsz := HL.out.size
          rw [HS9.out] at HSN
          simp only at HSN
          clear HS9
          go_wp2_with (at_builtin; refine wpList_append_gen rfl (.tmp 24) (.tmp 26) _ rfl w.heap.size 41 iR _ 2 16 Try.underlying24 HIR.out HZR.out.1 HZR.out.2.1 HZR.out.2.2 rfl (by omega) (.slice oL m cL) m xs rfl (some ⟨w4.heap.size, 0, none⟩) 1 1 [.int .i64 slo, .int .i64 shi] rfl (HOW2.out.alloc _) (fun e9 => by cases e9) rfl (fun ad9 e9 j9 u9 hu9 => by cases e9; exact news_blk2 (e := 41) (heap_new rfl) hu9) (by simp [Value.oneCell']) (by simp only [maxLen]; omega) (by omega) (by simp; omega) ?_; intro vS wS hownS hgrowS)
          have hbS : Below w.heap.size w wS := (HL.out.alloc HL.out.size _).trans (below_row HOW2.out hgrowS HL.out.size)
          rw [HSN.out, HYS.out] at hownS
          have HO2 := Lib.hid hownS
          have HL2 := Lib.hid hbS
          clear hownS hbS hgrowS s0 s1 s4
          go_wp2_with fail
          go_roundw
          case rel => exact ⟨m + 1, by omega, by go_num, HO2, HL2⟩
          case measure => simp [intOf]; omega
      · obtain rfl : m = n := by omega
        obtain ⟨oL, cL, rfl, hsp, hba⟩ := owns_spans HOW.out
        have H1 := Lib.hid hsp
        have H2 := Lib.hid hba
        clear hsp hba
        go_wp2_with fail
        refine bodyPost_ret (v := .tuple #[.slice oL m cL, .int .i64 0]) (by simp [results, Try.results11, go_sem]) rfl ⟨HL.out, .inr ⟨HLB.out, oL, cL, rfl, H1.out, H2.out⟩⟩
theorem eq41 (a b c d : Int) (w : World) : (Op.equalIn 10000 41 (.agg #[.int .i64 a, .int .i64 b]) (.agg #[.int .i64 c, .int .i64 d])).run Try.prog w = .ok (a == c && b == d) w := by
  have u3 := Try.underlying3
  have hS : Try.prog.underlying 41 = some (.struct (Try.prog.fieldsOf 41)) := by kernel_rfl
  rw [show (10000 : Nat) = 9999 + 1 from rfl, run_equalIn_agg w 9999 41 _ _ hS (by kernel_rfl)]
  simp only [Program.fieldsOf, Try.underlying41]
  go_simp
  by_cases h1 : a = c <;> by_cases h2 : b = d <;> simp [h1, h2]
theorem neq41 (s t : Spn) (w : World) : (binOp .neq 41 (.agg #[.int .i64 s.lo, .int .i64 s.hi]) (.agg #[.int .i64 t.lo, .int .i64 t.hi])).run Try.prog w = .ok (.bool (!decide (s = t))) w := by
  rw [run_neq_struct, eq41]
  simp only [Result.andThen_ok]
  congr 2
  obtain ⟨a, b⟩ := s
  obtain ⟨c, d⟩ := t
  simp only [Spn.mk.injEq]
  by_cases h1 : a = c <;> by_cases h2 : b = d <;> simp [h1, h2]
/-- two lists of spans are the same -/
def spnsB (n m : Nat) (s t : Nat → Spn) : Bool := decide (n = m) && allB n (fun i => decide (s i = t i))
theorem spnsB_ne {n m : Nat} {s t : Nat → Spn} (h : n ≠ m) : spnsB n m s t = false := by unfold spnsB; rw [decide_eq_false h]; rfl
theorem spnsB_no {n k : Nat} {s t : Nat → Spn} (hk : k < n) (h : s k ≠ t k) : spnsB n n s t = false := by
  unfold spnsB
  rw [allB_false (p := fun i => decide (s i = t i)) hk (by simpa using h)]; simp
theorem spnsB_yes {n : Nat} {s t : Nat → Spn} (h : ∀ i, i < n → s i = t i) : spnsB n n s t = true := by
  unfold spnsB
  rw [allB_iff.2 fun i hi => by simpa using h i hi]; simp
set_option maxRecDepth 100000 in
set_option maxHeartbeats 8000000 in
theorem spans_any (oa ob : Option Addr) (n ca m cb : Nat) (s t : Nat → Spn) (w : World) (hn : n ≤ 1000000) (hm : m ≤ 1000000) (hS : SpnsAt w oa n s) (hT : SpnsAt w ob m t) :
    Calls Try.prog 17 #[.slice oa n ca, .slice ob m cb] w fun e w' => e = .returned (.bool (spnsB n m s t)) ∧ Below w.heap.size w w' := by
  have HS := Lib.hid hS
  have HT := Lib.hid hT
  clear hS hT
  go_enter Try.func17, Try.ntmps17
  by_cases hnm : n = m
  · subst hnm
    go_wp2_with fail
    go_loopw [5] (fun v5 wr => ∃ k : Nat, k ≤ n ∧ v5 = .int .i64 k ∧ Hid (Below w.heap.size w wr) ∧ Hid (∀ i, i < k → s i = t i)) (fun v5 _ => n - (intOf v5).toNat)
    case atStart => exact ⟨0, by omega, rfl, Lib.hid (Below.refl _ _), Lib.hid fun i hi => by omega⟩
    case round =>
      obtain ⟨k, hk, rfl, HL, HE⟩ := hrel
      by_cases hlt : k < n
      · obtain ⟨b, o, rfl, hl, c0, c1⟩ := (HS.out.mono HL.out) k hlt
        obtain ⟨b2, o2, rfl, hl2, d0, d1⟩ := (HT.out.mono HL.out) k hlt
        have HNO := Lib.hid (fun (h : s k ≠ t k) => spnsB_no hlt h)
        have HYES := Lib.hid (fun (h : s k = t k) => show ∀ i, i < k + 1 → s i = t i from fun i hi => by
          by_cases h9 : i = k
          · rw [h9]; exact h
          · exact HE.out i (by omega))
        obtain ⟨S1, hS1⟩ : ∃ S, S = s k := ⟨_, rfl⟩
        obtain ⟨T1, hT1⟩ : ∃ S, S = t k := ⟨_, rfl⟩
        rw [← hS1] at c0 c1 HNO HYES
        rw [← hT1] at d0 d1 HNO HYES
        clear hS1 hT1
        obtain ⟨sl, sh⟩ := S1
        obtain ⟨tl, th⟩ := T1
        simp only at c0 c1 d0 d1
        have hk0 : (0 : Int) ≤ (k : Int) := by omega
        have hk1 : (k : Int) < (n : Int) := by omega
        have q0 : ∀ V : Aft wr, V.val.cell? ⟨b, o + k * 2, none⟩ = some (.int .i64 sl) := fun V => (V.below.cell (p := ⟨b, o + k * 2, none⟩) hl).trans c0
        have q1 : ∀ V : Aft wr, V.val.cell? ⟨b, o + k * 2 + 1, none⟩ = some (.int .i64 sh) := fun V => (V.below.cell (p := ⟨b, o + k * 2 + 1, none⟩) hl).trans c1
        have q2 : ∀ V : Aft wr, V.val.cell? ⟨b2, o2 + k * 2, none⟩ = some (.int .i64 tl) := fun V => (V.below.cell (p := ⟨b2, o2 + k * 2, none⟩) hl2).trans d0
        have q3 : ∀ V : Aft wr, V.val.cell? ⟨b2, o2 + k * 2 + 1, none⟩ = some (.int .i64 th) := fun V => (V.below.cell (p := ⟨b2, o2 + k * 2 + 1, none⟩) hl2).trans d1
        have q4 : ∀ V : Aft wr, b < V.val.heap.size := fun V => Nat.lt_of_lt_of_le hl V.below.size
        have q5 : ∀ V : Aft wr, b2 < V.val.heap.size := fun V => Nat.lt_of_lt_of_le hl2 V.below.size
        clear c0 c1 d0 d1 hl hl2
        go_upto_region 6 with fail
        have HCM := Lib.hid (fun (V : World) => neq41 ⟨sl, sh⟩ ⟨tl, th⟩ V)
        by_cases heq : (⟨sl, sh⟩ : Spn) = ⟨tl, th⟩
        · have HY := Lib.hid (HYES.out heq)
          have hcm : ∀ V : World, (binOp .neq 41 (.agg #[.int .i64 sl, .int .i64 sh]) (.agg #[.int .i64 tl, .int .i64 th])).run Try.prog V = .ok (.bool false) V := fun V => by rw [HCM.out V]; simp [heq]
          clear heq HYES HNO
          refine wp_region_aft (by kernel_rfl) (by kernel_rfl) ?_
          repeat (go_big_quiet_step (fail))
          refine wpQuiet_nil ?_
          intro WA
          obtain ⟨wy, hwy⟩ : ∃ X, X = WA.val := ⟨_, rfl⟩
          have hby := WA.below
          rw [← hwy] at hby ⊢
          clear hwy WA
          replace HL := Lib.hid (HL.out.trans (hby.mono HL.out.size))
          clear hby q0 q1 q2 q3 q4 q5 hcm
          go_wp2_with fail
          go_roundw
          case rel => exact ⟨k + 1, by omega, by go_num, HL, HY⟩
          case measure => simp [intOf]; omega
        · have HN := Lib.hid (HNO.out heq)
          have hcm : ∀ V : World, (binOp .neq 41 (.agg #[.int .i64 sl, .int .i64 sh]) (.agg #[.int .i64 tl, .int .i64 th])).run Try.prog V = .ok (.bool true) V := fun V => by rw [HCM.out V]; rw [decide_eq_false heq]; rfl
          clear heq HYES HNO
          refine wp_region_aft (by kernel_rfl) (by kernel_rfl) ?_
          repeat (go_big_quiet_step (fail))
          refine wpQuiet_nil ?_
          intro WA
          obtain ⟨wy, hwy⟩ : ∃ X, X = WA.val := ⟨_, rfl⟩
          have hby := WA.below
          rw [← hwy] at hby ⊢
          clear hwy WA
          replace HL := Lib.hid (HL.out.trans (hby.mono HL.out.size))
          clear hby q0 q1 q2 q3 q4 q5 hcm
          go_wp2_with fail
          go_ret
          exact ⟨by rw [HN.out]; rfl, HL.out⟩
      · obtain rfl : k = n := by omega
        have HX := Lib.hid (spnsB_yes HE.out)
        go_wp2_with fail
        go_ret
        exact ⟨by rw [HX.out]; rfl, HL.out⟩
  · have HX := Lib.hid (spnsB_ne (s := s) (t := t) hnm)
    have hne : ((n : Int) != (m : Int)) = true := by simp; omega
    go_wp2_with fail
    go_ret
    exact ⟨by rw [HX.out]; rfl, Below.refl _ _⟩
end Go.Proofs.Ytipnaeijbbbdoaa
