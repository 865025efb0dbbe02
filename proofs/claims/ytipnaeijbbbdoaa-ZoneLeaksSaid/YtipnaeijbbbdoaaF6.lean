/- Zone: exactly, and the closure of ZoneEnds. -/
import Derived.Test.YtipnaeijbbbdoaaZ9
namespace Go.Proofs.Ytipnaeijbbbdoaa
open Go.RowKit
/-- a zone that has just some loss of its own -/
def exZ (v p : Int) : Zon := ⟨⟨v, v⟩, ⟨0, 0⟩, ⟨0, 0⟩, ⟨0, 0⟩, p⟩
theorem exZ_own {v p : Int} (h : 0 ≤ v) : (exZ v p).own = ⟨v, v⟩ := by
  have e1 : thrD 0 0 = 0 := by decide +kernel
  have e2 : thrU 0 0 = 0 := by decide +kernel
  unfold exZ Zon.own
  simp only [e1, e2, Spn.mk.injEq]
  omega
set_option maxRecDepth 100000 in
set_option maxHeartbeats 4000000 in
theorem exactly_any (oa : Option Addr) (n ca i : Nat) (v : Int) (z : Nat → Zon) (w : World) (hn : n ≤ 16) (hi : i < n) (hA : ZonsAt w oa n z) :
    Calls Try.prog 25 #[.slice oa n ca, .int .i64 i, .int .i64 v] w fun e w' => (∃ g cap, e = .returned (.slice (some ⟨g, 0, none⟩) n cap) ∧ ZonsAt w' (some ⟨g, 0, none⟩) n (updZ z i (exZ v (z i).p))) ∧ Below w.heap.size w w' := by
  have HA := Lib.hid hA
  have HNW := Lib.hid (fun (V : World) (hV : Below w.heap.size w V) => zons_news (hA.mono hV))
  have HNIL := Lib.hid (show oa = none → n = 0 from fun h => by
    obtain ⟨b, off, e, -⟩ := hA i hi
    rw [h] at e; cases e)
  clear hA
  obtain ⟨b0, off0, hoa, -⟩ := HA.out i hi
  subst hoa
  obtain ⟨iR, hiR, hzR0, hzR1, hzR2⟩ := info_parts (P := Try.prog) (e := 48) (z := .agg #[.int .i64 0, .int .i64 0, .int .i64 0, .int .i64 0, .int .i64 0, .int .i64 0, .int .i64 0, .int .i64 0, .int .i64 0]) (size := 9) (bytes := 72) (by kernel_rfl)
  have HIR := Lib.hid hiR
  have HZR := Lib.hid (And.intro hzR0 (And.intro hzR1 hzR2))
  clear hiR hzR0 hzR1 hzR2
  have k0 : (0 : Int) ≤ (i : Int) := by omega
  have k1 : (i : Int) < (n : Int) := by omega
  have HIN := Lib.hid hi
  go_enter Try.func25, Try.ntmps25
  go_wp2_with (at_builtin; refine wpList_append_gen rfl (.tmp 8) (.tmp 9) _ rfl w.heap.size 48 iR _ 9 72 Try.underlying22 HIR.out HZR.out.1 HZR.out.2.1 HZR.out.2.2 rfl (by omega) (.slice (some ⟨w.heap.size, 0, none⟩) 0 0) 0 [] rfl (some ⟨b0, off0, none⟩) n ca (zonNews n z) rfl (owns_empty (Nat.le_refl _) (heap_new rfl)) (fun e9 => by cases e9) (zonNews_length n z) (fun ad9 e9 j9 u9 hu9 => (HNW.out _ (below_alloc1 w _)) ad9 e9 j9 u9 hu9) zons_one (by simp only [maxLen]; omega) (by omega) (by simp) ?_; intro vS wS hownS hgrowS)
  rw [Nat.zero_add, List.nil_append] at hownS
  obtain ⟨g, cR, cur, rfl, hgb, hbx, hzr⟩ := owns_zrow hownS (by omega)
  have HB := Lib.hid (show Below w.heap.size w wS from below_grown (below_alloc1 w (.cells #[] 48)) (owns_empty (e := 48) (size := 9) (Nat.le_refl _) (heap_new rfl)) hgrowS)
  have HBX := Lib.hid hbx
  have HR := Lib.hid hzr
  have HG := Lib.hid hgb
  clear hownS hgrowS hbx hzr hgb HNW HNIL HIR HZR
  go_upto_region 2 with fail
  have HPF := Lib.hid (show ∀ V, Below wS.heap.size wS V → b0 < V.heap.size ∧ V.cell? ⟨b0, off0 + i * 9 + 1 + 1 + 1 + 1 + 1 + 1 + 1 + 1, none⟩ = some (.int .i64 (z i).p) from fun V hV => by
    obtain ⟨b9, o9, e9, h1, -, -, -, -, -, -, -, -, h2⟩ := (HA.out.mono (HB.out.trans (hV.mono HB.out.size))) i HIN.out
    cases e9
    exact ⟨h1, h2⟩)
  have HFIN := Lib.hid (show ZRow n (updZ z i (exZ v (z i).p)) (setA cur (i * 9) (exZ v (z i).p).cells.toList) from HR.out.set HIN.out _)
  have HSZ := Lib.hid HR.out.1
  clear HR
  obtain ⟨p, hp⟩ : ∃ p, p = (z i).p := ⟨_, rfl⟩
  rw [← hp] at HPF HFIN
  have HPP := Lib.hid hp
  clear hp
  have hP0 : ∀ A B : World, Below wS.heap.size wS A → Below A.heap.size A B → Below wS.heap.size wS B := fun A B h1 h2 => h1.trans (h2.mono h1.size)
  have hP1 : ∀ A B : World, g < A.heap.size → Below A.heap.size A B → g < B.heap.size := fun _ _ h1 h2 => Nat.lt_of_lt_of_le h1 h2.size
  have hP01 : ∀ A : World, Below wS.heap.size wS A → g < A.heap.size := fun _ h1 => Nat.lt_of_lt_of_le HBX.out.lt h1.size
  have hC0 : Below wS.heap.size wS wS.drew := (Below.refl _ _).drew
  refine wp_region_phase 12 (fun A => Below wS.heap.size wS A) (fun A => g < A.heap.size) (by kernel_rfl) ?_
  (refine wpAnyP_take0 (i := 0) hP0 hP1 hC0 (by decide) (by rfl) rfl (by kernel_rfl) rfl (by kernel_rfl) (by kernel_rfl) (by kernel_rfl) (fun _ _ _ _ h => h) (by rfl) ?_; apply Exists.intro; refine ⟨fun w1 h1 K hK => ?_, ?_⟩; · ( go_big_quiet_op; first | exact hK | fail))
  (refine wpAnyP_take0 (i := 1) hP0 hP1 hC0 (by decide) (by rfl) rfl (by kernel_rfl) rfl (by kernel_rfl) (by kernel_rfl) (by kernel_rfl) (fun _ _ _ _ h => h) (by rfl) ?_; apply Exists.intro; refine ⟨fun w1 h1 K hK => ?_, ?_⟩; · ( go_big_quiet_op; first | exact hK | fail))
  (refine wpAnyP_take0 (i := 2) hP0 hP1 hC0 (by decide) (by rfl) rfl (by kernel_rfl) rfl (by kernel_rfl) (by kernel_rfl) (by kernel_rfl) (fun _ _ _ _ h => h) (by rfl) ?_; apply Exists.intro; refine ⟨fun w1 h1 K hK => ?_, ?_⟩; · ( go_big_quiet_op; first | exact hK | fail))
  (refine wpAnyP_take0 (i := 3) hP0 hP1 hC0 (by decide) (by rfl) rfl (by kernel_rfl) rfl (by kernel_rfl) (by kernel_rfl) (by kernel_rfl) (fun _ _ _ _ h => h) (by rfl) ?_; apply Exists.intro; refine ⟨fun w1 h1 K hK => ?_, ?_⟩; · ( go_big_quiet_op; first | exact hK | fail))
  (refine wpAnyP_take0 (i := 4) hP0 hP1 hC0 (by decide) (by rfl) rfl (by kernel_rfl) rfl (by kernel_rfl) (by kernel_rfl) (by kernel_rfl) (fun _ _ _ _ h => h) (by rfl) ?_; apply Exists.intro; refine ⟨fun w1 h1 K hK => ?_, ?_⟩; · ( go_big_quiet_op; first | exact hK | exact ⟨_, fun W => aft_call (lspan_any _ _ _), hK⟩))
  (refine wpAnyP_take0 (i := 5) hP0 hP1 hC0 (by decide) (by rfl) rfl (by kernel_rfl) rfl (by kernel_rfl) (by kernel_rfl) (by kernel_rfl) (fun _ _ _ _ h => h) (by rfl) ?_; apply Exists.intro; refine ⟨fun w1 h1 K hK => ?_, ?_⟩; · ( go_big_quiet_op; first | exact hK | fail))
  (refine wpAnyP_take0 (i := 6) hP0 hP1 hC0 (by decide) (by rfl) rfl (by kernel_rfl) rfl (by kernel_rfl) (by kernel_rfl) (by kernel_rfl) (fun _ _ _ _ h => h) (by rfl) ?_; apply Exists.intro; refine ⟨fun w1 h1 K hK => ?_, ?_⟩; · ( go_big_quiet_op; first | exact hK | fail))
  (refine wpAnyP_take0 (i := 7) hP0 hP1 hC0 (by decide) (by rfl) rfl (by kernel_rfl) rfl (by kernel_rfl) (by kernel_rfl) (by kernel_rfl) (fun _ _ _ _ h => h) (by rfl) ?_; apply Exists.intro; refine ⟨fun w1 h1 K hK => ?_, ?_⟩; · ( go_big_quiet_op; first | exact hK | fail))
  (refine wpAnyP_take0 (i := 8) hP0 hP1 hC0 (by decide) (by rfl) rfl (by kernel_rfl) rfl (by kernel_rfl) (by kernel_rfl) (by kernel_rfl) (fun _ _ _ _ h => h) (by rfl) ?_; apply Exists.intro; refine ⟨fun w1 h1 K hK => ?_, ?_⟩; · (have q9 : ∀ V : Aft w1, b0 < V.val.heap.size := fun V => (HPF.out V.val (hP0 _ _ h1 V.below)).1; go_big_quiet_op; first | exact hK | fail))
  (refine wpAnyP_take0 (i := 9) hP0 hP1 hC0 (by decide) (by rfl) rfl (by kernel_rfl) rfl (by kernel_rfl) (by kernel_rfl) (by kernel_rfl) (fun _ _ _ _ h => h) (by rfl) ?_; apply Exists.intro; refine ⟨fun w1 h1 K hK => ?_, ?_⟩; · (have q9 : ∀ V : Aft w1, V.val.cell? ⟨b0, off0 + i * 9 + 1 + 1 + 1 + 1 + 1 + 1 + 1 + 1, none⟩ = some (.int .i64 p) := fun V => (HPF.out V.val (hP0 _ _ h1 V.below)).2; go_big_quiet_op; first | exact hK | fail))
  (refine wpAnyP_take0 (i := 10) hP0 hP1 hC0 (by decide) (by rfl) rfl (by kernel_rfl) rfl (by kernel_rfl) (by kernel_rfl) (by kernel_rfl) (fun _ _ _ _ h => h) (by rfl) ?_; apply Exists.intro; refine ⟨fun w1 h1 K hK => ?_, ?_⟩; · ( go_big_quiet_op; first | exact hK | fail))
  (refine wpAnyP_take0 (i := 11) hP0 hP1 hC0 (by decide) (by rfl) rfl (by kernel_rfl) rfl (by kernel_rfl) (by kernel_rfl) (by kernel_rfl) (fun _ _ _ _ h => h) (by rfl) ?_; apply Exists.intro; refine ⟨fun w1 h1 K hK => ?_, ?_⟩; · ( go_big_quiet_op; first | exact hK | fail))
  (refine wpAnyP_one (i := 12) (by kernel_rfl) rfl (by rfl) (fun wa hwa K hK => ?_))
  have hA1 := hP0 _ _ hC0 hwa
  have hsz := HSZ.out
  refine wp_store_at (HBX.out.below hA1) rfl rfl rfl (by simp; omega) (by kernel_rfl) (by simp [Value.oneCell']) (fun wb zs ho => ?_)
  dsimp only [Act.put]
  have hLb : Below w.heap.size w wb := (HB.out.trans (hA1.mono HB.out.size)).trans (ho.below HG.out)
  refine hK _ _ zs.lt ?_
  clear hK K
  refine wpAnyP_done (by kernel_rfl) (fun wz hwz => ?_) _
  have hz := HFIN.out.at_ (zs.below hwz)
  have hl := hLb.trans (hwz.mono hLb.size)
  have HZ := Lib.hid hz
  have HL := Lib.hid hl
  clear hP0 hP1 hP01 hC0 hwa hA1 zs ho hLb hwz hz hl hsz
  go_wp2_with fail
  go_ret
  exact ⟨⟨g, ⟨cR, rfl⟩, by rw [← HPP.out]; exact HZ.out⟩, HL.out⟩
theorem eql41 (s t : Spn) (w : World) : (binOp .eql 41 (.agg #[.int .i64 s.lo, .int .i64 s.hi]) (.agg #[.int .i64 t.lo, .int .i64 t.hi])).run Try.prog w = .ok (.bool (decide (s = t))) w := by
  rw [run_eql_struct, eq41]
  simp only [Result.andThen_ok]
  congr 2
  obtain ⟨a, b⟩ := s
  obtain ⟨c, d⟩ := t
  simp only [Spn.mk.injEq]
  by_cases h1 : a = c <;> by_cases h2 : b = d <;> simp [h1, h2]
theorem list_upd {n i : Nat} {z : Nat → Zon} {v : Int} (h : listB n z = true) (h0 : 0 ≤ v) (h1 : v ≤ 1073741824) : listB n (updZ z i (exZ v (z i).p)) = true := by
  unfold listB at h ⊢
  rw [Bool.and_eq_true] at h ⊢
  refine ⟨allB_iff.2 fun j hj => ?_, h.2⟩
  have h2 := allB_iff.1 h.1 j hj
  by_cases hji : j = i
  · subst hji
    rw [updZ_self]
    unfold zonB at h2 ⊢
    simp only [Bool.and_eq_true] at h2 ⊢
    refine ⟨?_, ?_, ?_, ?_, h2.2.2.2.2⟩ <;> simp [spanB, exZ] <;> omega
  · rw [updZ_ne hji]; exact h2
set_option maxRecDepth 100000 in
set_option maxHeartbeats 4000000 in
theorem with_any (oa : Option Addr) (n ca i g2 g9 : Nat) (v : Int) (b : Bool) (z : Nat → Zon) (w : World) (hn : n ≤ 16) (hi : i < n) (hA : ZonsAt w oa n z) (h2 : Box g2 #[.slice oa n ca] 22 w) (h9 : Box g9 #[.int .i64 i] 3 w)
    (hl : listB n z = true) (v0 : 0 ≤ v) (v1 : v ≤ 1073741824) (hb : b = true ↔ AllR (updZ z i (exZ v (z i).p)) n) :
    Calls Try.prog 24 #[.int .i64 v, .pointer (some ⟨g2, 0, none⟩), .pointer (some ⟨g9, 0, none⟩)] w fun e w' => e = .returned (.bool b) ∧ Below w.heap.size w w' := by
  have HEX := Lib.hid (exactly_any oa n ca i v z w hn hi hA)
  have HLB := Lib.hid (list_upd (i := i) hl v0 v1)
  have HOW := Lib.hid (show (updZ z i (exZ v (z i).p) i).own = ⟨v, v⟩ by rw [updZ_self]; exact exZ_own v0)
  obtain ⟨z', hz'⟩ : ∃ f, f = updZ z i (exZ v (z i).p) := ⟨_, rfl⟩
  rw [← hz'] at HEX HLB HOW hb
  have H2 := Lib.hid h2
  have H9 := Lib.hid h9
  have HBB := Lib.hid hb
  have HIN := Lib.hid hi
  have c2 := h2.cell 0 (v := .slice oa n ca) rfl
  have c9 := h9.cell 0 (v := .int .i64 i) rfl
  have l2 := h2.lt
  have l9 := h9.lt
  have k0 : (0 : Int) ≤ (i : Int) := by omega
  have k1 : (i : Int) < (n : Int) := by omega
  clear hz' hA h2 h9 hb hl z
  go_enter Try.func24, Try.ntmps24
  go_wp2_with fail
  refine HEX.out.mono ?_
  rintro e w1 ⟨⟨g, cap, rfl, hz1⟩, hb1⟩
  have HB1 := Lib.hid hb1
  have HLS := Lib.hid (losses_any (some ⟨g, 0, none⟩) n cap z' w1 (by omega) hz1)
  clear hz1 hb1 c2 c9 l2 l9 HEX
  go_wp2_with fail
  refine HLS.out.mono ?_
  intro e w2 hp
  by_cases hall : AllR z' n
  · have hbt := HBB.out.2 hall
    subst hbt
    obtain ⟨hb2, oD, cD, rfl, hsd, -⟩ := loss_all hp HLB.out hall
    obtain ⟨bD, oD9, hoD, hlD, d0, d1⟩ := hsd i HIN.out
    subst hoD
    have hex := exact_dn (listB_spec HLB.out).2.2.1 HIN.out HOW.out hall
    rw [hex] at d0 d1
    simp only at d0 d1
    have HL := Lib.hid (HB1.out.trans (hb2.mono HB1.out.size))
    have q0 : ∀ V : Aft w2, V.val.cell? ⟨bD, oD9 + i * 2, none⟩ = some (.int .i64 v) := fun V => (V.below.cell (p := ⟨bD, oD9 + i * 2, none⟩) hlD).trans d0
    have q1 : ∀ V : Aft w2, V.val.cell? ⟨bD, oD9 + i * 2 + 1, none⟩ = some (.int .i64 v) := fun V => (V.below.cell (p := ⟨bD, oD9 + i * 2 + 1, none⟩) hlD).trans d1
    have q2 : ∀ V : Aft w2, bD < V.val.heap.size := fun V => Nat.lt_of_lt_of_le hlD V.below.size
    have HX2 := Lib.hid (H2.out.below HL.out)
    have HX9 := Lib.hid (H9.out.below HL.out)
    have q3 : ∀ V : Aft w2, V.val.cell? ⟨g2, 0, none⟩ = some (.slice oa n ca) := fun V => (HX2.out.below V.below).cell 0 rfl
    have q4 : ∀ V : Aft w2, V.val.cell? ⟨g9, 0, none⟩ = some (.int .i64 i) := fun V => (HX9.out.below V.below).cell 0 rfl
    have q5 : ∀ V : Aft w2, g2 < V.val.heap.size := fun V => (HX2.out.below V.below).lt
    have q6 : ∀ V : Aft w2, g9 < V.val.heap.size := fun V => (HX9.out.below V.below).lt
    have hcm : ∀ V : World, (binOp .eql 41 (.agg #[.int .i64 v, .int .i64 v]) (.agg #[.int .i64 v, .int .i64 v])).run Try.prog V = .ok (.bool true) V := fun V => (eql41 ⟨v, v⟩ ⟨v, v⟩ V).trans (by rw [decide_eq_true rfl])
    have hnn : ((n : Int) == (n : Int)) = true := by simp
    clear hp hall hsd hlD d0 d1 hex hb2 HLS HLB HOW HBB
    go_upto_region 2 with fail
    refine wp_region_aft (by kernel_rfl) (by kernel_rfl) ?_
    repeat (go_big_quiet_step ((go_at_call 26; exact aft_call (lspan_any _ _ _))))
    refine wpQuiet_nil ?_
    intro WA
    obtain ⟨wy, hwy⟩ : ∃ X, X = WA.val := ⟨_, rfl⟩
    have hby := WA.below
    rw [← hwy] at hby ⊢
    clear hwy WA
    clear q0 q1 q2 q3 q4 q5 q6
    go_wp2_with fail
    go_ret
    exact ⟨rfl, HL.out.trans (hby.mono HL.out.size)⟩
  · have hbf : b = false := by
      cases b
      · rfl
      · exact absurd (HBB.out.1 rfl) hall
    subst hbf
    obtain ⟨rfl, hb2⟩ := loss_none hp HLB.out hall
    have HL := Lib.hid (HB1.out.trans (hb2.mono HB1.out.size))
    clear hp hall hb2 HLS HLB HOW HBB
    go_upto_region 2 with fail
    refine wp_region_aft (by kernel_rfl) (by kernel_rfl) ?_
    repeat (go_big_quiet_step (fail))
    refine wpQuiet_nil ?_
    intro WA
    obtain ⟨wy, hwy⟩ : ∃ X, X = WA.val := ⟨_, rfl⟩
    have hby := WA.below
    rw [← hwy] at hby ⊢
    clear hwy WA
    go_wp2_with fail
    go_ret
    exact ⟨rfl, HL.out.trans (hby.mono HL.out.size)⟩
end Go.Proofs.Ytipnaeijbbbdoaa
