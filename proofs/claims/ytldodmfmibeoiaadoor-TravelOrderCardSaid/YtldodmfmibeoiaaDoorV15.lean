/- Travel: the document's in and Round; Ints; the law's span and sample. -/
import Derived.Test.YtldodmfmibeoiaaDoorV14
namespace Go.Proofs.YtldodmfmibeoiaaDoor
open Go.RowKit
set_option maxHeartbeats 400000 in
theorem in_any (n low high : Int) (w : World) :
    Calls Tryd.prog 41 #[.int .i64 n, .int .i64 low, .int .i64 high] w fun e w' => e = .returned (.bool (withinB n low high)) ∧ w = w' := by
  go_enter Tryd.func41, Tryd.ntmps41
  go_wp2
  all_goals (go_ret; exact ⟨ret_bool (by simp [withinB]; omega), rfl⟩)
set_option maxHeartbeats 400000 in
theorem lspan_any (a b : Int) (w : World) :
    Calls Tryd.prog 26 #[.int .i64 a, .int .i64 b] w fun e w' => e = .returned (.agg #[.int .i64 a, .int .i64 b]) ∧ Below w.heap.size w w' := by
  go_enter Tryd.func26, Tryd.ntmps26
  go_wp2
  refine bodyPost_ret (v := .agg #[.int .i64 a, .int .i64 b]) (by simp [results, Tryd.results26, go_sem]) rfl ⟨rfl, (by repeat' (first | exact Below.refl _ _ | assumption | apply below_drewN | apply Below.drew | (refine Below.alloc ?_ ?_ _) | (refine Below.setCell ?_ ?_ _) | (simp; done) | (simp; omega) | omega))⟩
/-- two lists are the same -/
def sameB (n m : Nat) (f g : Nat → Int) : Bool := decide (n = m) && allB n (fun i => decide (f i = g i))
set_option maxHeartbeats 4000000 in
theorem ints_any (oa ob : Option Addr) (n m ca cb : Nat) (f g : Nat → Int) (w : World) (hn : n ≤ 1000000) (hm : m ≤ 1000000) (hA : IntsAt w oa n f) (hB : IntsAt w ob m g) :
    Calls Tryd.prog 22 #[.slice oa n ca, .slice ob m cb] w fun e w' => e = .returned (.bool (sameB n m f g)) ∧ Below w.heap.size w w' := by
  have HA := Lib.hid hA
  have HB := Lib.hid hB
  clear hA hB
  go_enter Tryd.func22, Tryd.ntmps22
  by_cases hnm : n = m
  · subst hnm
    have HS := Lib.hid (show sameB n n f g = allB n (fun i => decide (f i = g i)) by simp [sameB])
    have hq : ((n : Int) != (n : Int)) = false := by simp
    go_wp2_with fail
    go_loopw [5] (fun v5 wr => ∃ k : Nat, k ≤ n ∧ v5 = .int .i64 k ∧ Hid (Below w.heap.size w wr) ∧ Hid (∀ i, i < k → f i = g i)) (fun i _ => n - (intOf i).toNat)
    case atStart => exact ⟨0, by omega, rfl, Lib.hid (Below.refl _ _), Lib.hid fun i hi => by omega⟩
    case round =>
      obtain ⟨k, hk, rfl, HL, HE⟩ := hrel
      by_cases hlt : k < n
      · obtain ⟨ba, oo, rfl, hl0, c0⟩ := (HA.out.mono HL.out) k hlt
        obtain ⟨bb, o2, rfl, hl1, c1⟩ := (HB.out.mono HL.out) k hlt
        have hk0 : (0 : Int) ≤ (k : Int) := by omega
        have hk1 : (k : Int) < (n : Int) := by omega
        by_cases hfg : f k = g k
        · have HE9 := Lib.hid (show ∀ i, i < k + 1 → f i = g i from fun i hi => by
            by_cases h9 : i = k
            · subst h9; exact hfg
            · exact HE.out i (by omega))
          have hq2 : (f k != g k) = false := by simp [hfg]
          obtain ⟨x, hx⟩ : ∃ x, x = f k := ⟨_, rfl⟩
          obtain ⟨y, hy⟩ : ∃ x, x = g k := ⟨_, rfl⟩
          rw [← hx] at c0 hq2
          rw [← hy] at c1 hq2
          have HCL := Lib.hid (show (ba < wr.heap.size ∧ bb < wr.heap.size) ∧ _ ∧ _ from ⟨⟨hl0, hl1⟩, c0, c1⟩)
          clear hx hy hfg c0 c1 hl0 hl1
          go_wp2_with fail
          have q0 : ∀ W : Aft wr, W.val.cell? ⟨ba, oo + k, none⟩ = some (.int .i64 x) := fun W => (W.below.cell (p := ⟨ba, oo + k, none⟩) HCL.out.1.1).trans HCL.out.2.1
          have q1 : ∀ W : Aft wr, W.val.cell? ⟨bb, o2 + k, none⟩ = some (.int .i64 y) := fun W => (W.below.cell (p := ⟨bb, o2 + k, none⟩) HCL.out.1.2).trans HCL.out.2.2
          have q2 : ∀ W : Aft wr, ba < W.val.heap.size := fun W => Nat.lt_of_lt_of_le HCL.out.1.1 W.below.size
          have q3 : ∀ W : Aft wr, bb < W.val.heap.size := fun W => Nat.lt_of_lt_of_le HCL.out.1.2 W.below.size
          refine wp_region_aft (by kernel_rfl) (by kernel_rfl) ?_
          repeat (go_big_quiet_step (fail))
          refine wpQuiet_nil ?_
          intro WA
          obtain ⟨wy, hwy⟩ : ∃ X, X = WA.val := ⟨_, rfl⟩
          have hby := WA.below
          rw [← hwy] at hby ⊢
          clear hwy WA
          clear q0 q1 q2 q3
          go_wp2_with fail
          go_roundw
          case rel => exact ⟨k + 1, by omega, by go_num, Lib.hid (HL.out.trans (hby.mono HL.out.size)), HE9⟩
          case measure => simp [intOf]; omega
        · have HNO := Lib.hid (show sameB n n f g = false by rw [HS.out]; exact allB_false hlt (by simp [hfg]))
          have hq2 : (f k != g k) = true := by simp [hfg]
          obtain ⟨x, hx⟩ : ∃ x, x = f k := ⟨_, rfl⟩
          obtain ⟨y, hy⟩ : ∃ x, x = g k := ⟨_, rfl⟩
          rw [← hx] at c0 hq2
          rw [← hy] at c1 hq2
          have HCL := Lib.hid (show (ba < wr.heap.size ∧ bb < wr.heap.size) ∧ _ ∧ _ from ⟨⟨hl0, hl1⟩, c0, c1⟩)
          clear hx hy hfg c0 c1 hl0 hl1
          go_wp2_with fail
          have q0 : ∀ W : Aft wr, W.val.cell? ⟨ba, oo + k, none⟩ = some (.int .i64 x) := fun W => (W.below.cell (p := ⟨ba, oo + k, none⟩) HCL.out.1.1).trans HCL.out.2.1
          have q1 : ∀ W : Aft wr, W.val.cell? ⟨bb, o2 + k, none⟩ = some (.int .i64 y) := fun W => (W.below.cell (p := ⟨bb, o2 + k, none⟩) HCL.out.1.2).trans HCL.out.2.2
          have q2 : ∀ W : Aft wr, ba < W.val.heap.size := fun W => Nat.lt_of_lt_of_le HCL.out.1.1 W.below.size
          have q3 : ∀ W : Aft wr, bb < W.val.heap.size := fun W => Nat.lt_of_lt_of_le HCL.out.1.2 W.below.size
          refine wp_region_aft (by kernel_rfl) (by kernel_rfl) ?_
          repeat (go_big_quiet_step (fail))
          refine wpQuiet_nil ?_
          intro WA
          obtain ⟨wy, hwy⟩ : ∃ X, X = WA.val := ⟨_, rfl⟩
          have hby := WA.below
          rw [← hwy] at hby ⊢
          clear hwy WA
          clear q0 q1 q2 q3
          go_wp2_with fail
          go_ret
          exact ⟨ret_bool (by rw [HNO.out]), HL.out.trans (hby.mono HL.out.size)⟩
      · obtain rfl : k = n := by omega
        have HYES := Lib.hid (show sameB k k f g = true by rw [HS.out]; exact allB_iff.2 (fun i hi => by simp [HE.out i hi]))
        go_wp2_with fail
        go_ret
        exact ⟨ret_bool (by rw [HYES.out]), HL.out⟩
  · have HNO := Lib.hid (show sameB n m f g = false by simp [sameB, hnm])
    have hq : ((n : Int) != (m : Int)) = true := by simp; omega
    go_wp2
    go_ret
    exact ⟨ret_bool (by rw [HNO.out]), Below.refl _ _⟩
set_option maxRecDepth 100000 in
set_option maxHeartbeats 8000000 in
theorem round_any (r : Rnd) (oa : Option Addr) (ca : Nat) (w : World) (hn : r.n ≤ 1000000) (hA : TrpsAt w oa r.n r.t) :
    Calls Tryd.prog 24 #[r.val oa ca] w fun e w' => e = .returned (.bool r.valid) ∧ Below w.heap.size w w' := by
  have HA := Lib.hid hA
  clear hA
  go_enter Tryd.func24, Tryd.ntmps24
  go_upto_region 1 with fail
  have hb0 := below_alloc1 w (.cells #[.int .i64 r.nb, .int .i64 r.nm, .int .i64 r.most, .slice oa r.n ca] 24)
  have hT := Box.new (g := w.heap.size) #[.int .i64 r.nb, .int .i64 r.nm, .int .i64 r.most, .slice oa r.n ca] 24 w rfl
  obtain ⟨W, hW⟩ : ∃ X, X = w.alloc (.cells #[.int .i64 r.nb, .int .i64 r.nm, .int .i64 r.most, .slice oa r.n ca] 24) := ⟨_, rfl⟩
  rw [← hW] at hb0 hT ⊢
  clear hW
  obtain ⟨gr, hgr⟩ : ∃ G, G = w.heap.size := ⟨_, rfl⟩
  rw [← hgr] at hT ⊢
  clear hgr
  have HV := Lib.hid (show r.valid = (r.head && !anyB r.n (fun i => badT r.nb r.nm (r.t i))) from rfl)
  have HH := Lib.hid (show r.head = (withinB r.nb 1 6 && (withinB r.nm 1 6 && (withinB r.most 0 100000 && decide (r.n ≤ 14)))) from rfl)
  have HBX := Lib.hid hT
  have b0 := hT.cell 0 rfl
  have b1 := hT.cell 1 rfl
  have b2 := hT.cell 2 rfl
  have b3 := hT.cell 3 rfl
  have b4 := hT.lt
  clear hT
  go_wp2_with fail
  refine (in_any _ _ _ _).mono ?_
  rintro e w1 ⟨rfl, rfl⟩
  rcases h1 : withinB r.nb 1 6
  case false =>
    have E := Lib.hid (show r.valid = false by rw [HV.out, HH.out, h1]; rfl)
    clear h1
    go_wp2
    go_ret
    exact ⟨ret_bool (by rw [E.out]), hb0⟩
  go_wp2_with fail
  refine (in_any _ _ _ _).mono ?_
  rintro e w1 ⟨rfl, rfl⟩
  rcases h2 : withinB r.nm 1 6
  case false =>
    have E := Lib.hid (show r.valid = false by rw [HV.out, HH.out, h2]; simp)
    clear h1 h2
    go_wp2
    go_ret
    exact ⟨ret_bool (by rw [E.out]), hb0⟩
  go_wp2_with fail
  refine (in_any _ _ _ _).mono ?_
  rintro e w1 ⟨rfl, rfl⟩
  rcases h3 : withinB r.most 0 100000
  case false =>
    have E := Lib.hid (show r.valid = false by rw [HV.out, HH.out, h3]; simp)
    clear h1 h2 h3
    go_wp2
    go_ret
    exact ⟨ret_bool (by rw [E.out]), hb0⟩
  by_cases h4 : r.n ≤ 14
  case neg =>
    have E := Lib.hid (show r.valid = false by rw [HV.out, HH.out, decide_eq_false h4]; simp)
    have z : decide (14 < (r.n : Int)) = true := by simp; omega
    clear h1 h2 h3
    go_wp2
    go_ret
    exact ⟨ret_bool (by rw [E.out]), hb0⟩
  have z : decide (14 < (r.n : Int)) = false := by simp; omega
  have hn1 : 1 ≤ r.nb ∧ r.nb ≤ 6 := by simp only [withinB, decide_eq_true_eq] at h1; exact h1
  have hn2 : 1 ≤ r.nm ∧ r.nm ≤ 6 := by simp only [withinB, decide_eq_true_eq] at h2; exact h2
  have HV2 := Lib.hid (show r.valid = (!anyB r.n (fun i => badT r.nb r.nm (r.t i))) by rw [HV.out, HH.out, h1, h2, h3, decide_eq_true h4]; rfl)
  obtain ⟨k1, k2⟩ := hn1
  obtain ⟨k3, k4⟩ := hn2
  have HL := Lib.hid hb0
  clear h1 h2 h3 b0 b1 b2 HV HH hb0
  go_wp2_with fail
  clear b3 b4 z
  obtain ⟨wo, rfl⟩ : ∃ wo : World, wo = W := ⟨_, rfl⟩
  go_loopw [3] (fun v3 wr => ∃ k : Nat, k ≤ r.n ∧ v3 = .int .i64 k ∧ Hid (Below w.heap.size w wr) ∧ Hid (Box gr #[.int .i64 r.nb, .int .i64 r.nm, .int .i64 r.most, .slice oa r.n ca] 24 wr) ∧ Hid (∀ i, i < k → badT r.nb r.nm (r.t i) = false)) (fun i _ => r.n - (intOf i).toNat)
  case atStart => exact ⟨0, by omega, rfl, HL, HBX, Lib.hid fun i hi => by omega⟩
  case round =>
    obtain ⟨k, hk, rfl, HLr, HBr, HNO⟩ := hrel
    clear HL HBX
    have b0 := HBr.out.cell 0 (v := .int .i64 r.nb) rfl
    have b1 := HBr.out.cell 1 (v := .int .i64 r.nm) rfl
    have b3 := HBr.out.cell 3 (v := .slice oa r.n ca) rfl
    have b4 := HBr.out.lt
    by_cases hlt : k < r.n
    · obtain ⟨b, off, rfl, hlt0, c0, c1, c2, c3⟩ := (HA.out.mono HLr.out) k hlt
      obtain ⟨T, hTT⟩ : ∃ T, T = r.t k := ⟨_, rfl⟩
      rw [← hTT] at c0 c1 c2 c3
      have HTT := Lib.hid hTT
      clear hTT
      obtain ⟨q1, h1⟩ : ∃ q, q = withinB T.b 0 (r.nb - 1) := ⟨_, rfl⟩
      obtain ⟨q2, h2⟩ : ∃ q, q = withinB T.m 0 (r.nm - 1) := ⟨_, rfl⟩
      have HE := Lib.hid (show badT r.nb r.nm (r.t k) = (!q1 || (!q2 || decide (T.lo < -100000 ∨ T.hi < T.lo ∨ 100000 < T.hi))) by rw [← HTT.out, h1, h2]; rfl)
      have H1 := Lib.hid h1.symm
      have H2 := Lib.hid h2.symm
      have HBD := Lib.hid (fun (h : badT r.nb r.nm (r.t k) = true) => show r.valid = false by rw [HV2.out, anyB_iff.2 ⟨k, hlt, h⟩]; rfl)
      clear h1 h2
      have hk0 : (0 : Int) ≤ (k : Int) := by omega
      have hk1 : (k : Int) < (r.n : Int) := by omega
      go_wp2_with fail
      refine (in_any _ _ _ _).mono ?_
      rintro e w1 ⟨rfl, rfl⟩
      rw [H1.out]
      have hbl : Below w.heap.size w (wr.alloc (.cells #[.int .i64 T.b, .int .i64 T.m, .int .i64 T.lo, .int .i64 T.hi] 48)) := HLr.out.alloc HLr.out.size _
      have hbx : Box gr #[.int .i64 r.nb, .int .i64 r.nm, .int .i64 r.most, .slice (some ⟨b, off, none⟩) r.n ca] 24 (wr.alloc (.cells #[.int .i64 T.b, .int .i64 T.m, .int .i64 T.lo, .int .i64 T.hi] 48)) := HBr.out.old _
      have HLZ := Lib.hid hbl
      have HBZ := Lib.hid hbx
      clear hbl hbx
      cases q1
      · go_wp2
        go_ret
        exact ⟨ret_bool (by rw [HBD.out (by rw [HE.out]; rfl)]), HLZ.out⟩
      · go_wp2_with fail
        refine (in_any _ _ _ _).mono ?_
        rintro e w1 ⟨rfl, rfl⟩
        rw [H2.out]
        cases q2
        · go_wp2
          go_ret
          exact ⟨ret_bool (by rw [HBD.out (by rw [HE.out]; rfl)]), HLZ.out⟩
        · by_cases hbad : T.lo < -100000 ∨ T.hi < T.lo ∨ 100000 < T.hi
          · have HBF := Lib.hid (HBD.out (by rw [HE.out, decide_eq_true hbad]; rfl))
            by_cases h7 : T.lo < -100000
            · clear hbad
              go_wp2
              go_ret
              exact ⟨ret_bool (by rw [HBF.out]), HLZ.out⟩
            · by_cases h8 : T.hi < T.lo
              · clear hbad
                go_wp2
                go_ret
                exact ⟨ret_bool (by rw [HBF.out]), HLZ.out⟩
              · have h9 : 100000 < T.hi := by omega
                clear hbad
                go_wp2
                go_ret
                exact ⟨ret_bool (by rw [HBF.out]), HLZ.out⟩
          · have HN9 := Lib.hid (show ∀ i, i < k + 1 → badT r.nb r.nm (r.t i) = false from fun i hi => by
              by_cases h9 : i = k
              · subst h9; rw [HE.out, decide_eq_false hbad]; rfl
              · exact HNO.out i (by omega))
            have h7 : ¬ T.lo < -100000 := by omega
            have h8 : ¬ T.hi < T.lo := by omega
            have h9 : ¬ 100000 < T.hi := by omega
            clear hbad
            go_wp2_with fail
            go_roundw
            case rel => exact ⟨k + 1, by omega, by go_num, HLZ, HBZ, HN9⟩
            case measure => simp [intOf]; omega
    · obtain rfl : k = r.n := by omega
      have HYES := Lib.hid (show r.valid = true by
        rw [HV2.out]
        cases h9 : anyB r.n (fun i => badT r.nb r.nm (r.t i))
        · rfl
        · obtain ⟨i, hi, hp⟩ := anyB_iff.1 h9
          rw [HNO.out i hi] at hp
          cases hp)
      go_wp2_with fail
      go_ret
      exact ⟨ret_bool (by rw [HYES.out]), HLr.out⟩
/-- the round of the document's examples -/
def smp : Rnd := ⟨3, 2, 10, 6, fun i => ([⟨0, 0, 100, 104⟩, ⟨1, 0, 98, 102⟩, ⟨2, 0, 140, 144⟩, ⟨0, 1, -50, -46⟩, ⟨2, 1, -8, -4⟩, ⟨1, 1, -53, -49⟩] : List Trp).getD i ⟨0, 0, 0, 0⟩⟩
end Go.Proofs.YtldodmfmibeoiaaDoor
