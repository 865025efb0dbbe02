/- TravelClashes returns true. -/
import Derived.Test.YtldodmfmibeoiaaDoorR9
import Derived.Test.YtldodmfmibeoiaaDoorL3
namespace Go.Proofs.YtldodmfmibeoiaaDoor
open Go.RowKit
theorem clash_form {r : Rnd} {off : Int} {w w' : World} {e : Ending} (h : ClashPost r off w e w') : ∃ o n c er, e = .returned (.tuple #[.slice o n c, .int .i64 er]) := by
  rcases h.2 with ⟨-, rfl⟩ | ⟨-, -, rfl⟩ | ⟨-, best, -, v, rfl, hown⟩
  · exact ⟨_, _, _, _, rfl⟩
  · exact ⟨_, _, _, _, rfl⟩
  · obtain ⟨oa, cap, rfl, -⟩ := owns_form hown
    exact ⟨_, _, _, _, rfl⟩
theorem d_form {r : Rnd} {off : Int} {w w' : World} {e : Ending} (h : DPost r off w e w') : ∃ o n c er, e = .returned (.tuple #[.slice o n c, .int .i64 er]) := by
  rcases h.2 with ⟨-, rfl⟩ | ⟨-, -, rfl⟩ | ⟨-, M, a, c, -, rfl, -⟩ <;> exact ⟨_, _, _, _, rfl⟩
theorem ints_none (w : World) (o : Option Addr) (f : Nat → Int) : IntsAt w o 0 f := fun _ hi => absurd hi (Nat.not_lt_zero _)
theorem clash_pair {r : Rnd} {off : Int} {w w1 w2 : World} {o o2 : Option Addr} {n n2 c c2 : Nat} {er er2 : Int} (h : ClashPost r off w (.returned (.tuple #[.slice o n c, .int .i64 er])) w1) (h2 : DPost r off w1 (.returned (.tuple #[.slice o2 n2 c2, .int .i64 er2])) w2) :
    er2 = er ∧ n2 = n ∧ n ≤ 14 ∧ ∃ f g : Nat → Int, IntsAt w2 o n f ∧ IntsAt w2 o2 n g ∧ ∀ i, i < n → f i = g i := by
  have hb := h2.1
  rcases h.2 with ⟨he, e1⟩ | ⟨he, hall, e1⟩ | ⟨he, best, hB, v, e1, hown⟩
  · cases e1
    rcases h2.2 with ⟨-, e2⟩ | ⟨he2, -⟩ | ⟨he2, -⟩
    · cases e2
      exact ⟨rfl, rfl, by omega, fun _ => 0, fun _ => 0, ints_none _ _ _, ints_none _ _ _, fun i hi => rfl⟩
    · exact absurd he2 he
    · exact absurd he2 he
  · cases e1
    rcases h2.2 with ⟨he2, -⟩ | ⟨-, -, e2⟩ | ⟨-, M, a, cc, hM, e2, -⟩
    · exact absurd he he2
    · cases e2
      exact ⟨rfl, rfl, by omega, fun _ => 0, fun _ => 0, ints_none _ _ _, ints_none _ _ _, fun i hi => rfl⟩
    · have hv := (Rnd.err_zero he).1
      have hn := (Rnd.valid_head hv).2.2.2
      have h9 := bad_tab hv off hM.1 (setL_lt hM.1.2) (mem2_setL hM.1 hn)
      rw [hM.2.1, hall _ (setL_lt hM.1.2)] at h9
      cases h9
  · have hv := (Rnd.err_zero he).1
    have hn := (Rnd.valid_head hv).2.2.2
    cases e1
    rcases h2.2 with ⟨he2, -⟩ | ⟨-, hno, e2⟩ | ⟨-, M, a, cc, hM, e2, hI⟩
    · exact absurd he he2
    · have h9 := clash_none hv hno hB.1
      rw [hB.2.1] at h9
      cases h9
    · cases e2
      have hs := clash_same hv hB hM
      have hl : (memI best).length = M.length := by rw [hs]; simp [memI]
      obtain ⟨oa, cap, e3, hI2, -⟩ := owns_list hown
      have hlen := good_len hM.1
      cases e3
      refine ⟨rfl, hl.symm, by omega, fun i => (memI best).getD i 0, fun i => ((M.getD i 0 : Nat) : Int), hI2.mono hb, by rw [hl]; exact hI, fun i hi => ?_⟩
      show (memI best).getD i 0 = ((M.getD i 0 : Nat) : Int)
      unfold memI
      rw [← hs, List.getD_eq_getElem?_getD, List.getD_eq_getElem?_getD, List.getElem?_map]
      rw [List.getElem?_eq_getElem (show i < M.length by omega)]
      rfl
theorem same_of {n : Nat} {f g : Nat → Int} (h : ∀ i, i < n → f i = g i) : sameB n n f g = true := by
  unfold sameB
  rw [decide_eq_true rfl, Bool.true_and]
  exact allB_iff.2 fun i hi => decide_eq_true (h i hi)
set_option maxRecDepth 100000 in
set_option maxHeartbeats 40000000 in
theorem travelClashes_any (r : Rnd) (oa : Option Addr) (ca : Nat) (off : Int) (w : World) (hR : TrpsAt w oa r.n r.t) (hT : TabAt 1 Lib.deBruijn64tab w) (h1 : 1 < w.heap.size) (hn63 : r.n ≤ 9223372036854775807) :
    Calls Tryd.prog 5 #[r.val oa ca, .int .i64 off] w fun e w' => e = .returned (.bool true) ∧ Below w.heap.size w w' := by
  have I0 := Lib.hid (Vr.start (ca := ca) hR hT h1)
  clear hR hT
  go_enter Tryd.func5, Tryd.ntmps5
  go_upto_region 1 with fail
  obtain ⟨g, hG⟩ : ∃ G, G = w.heap.size := ⟨_, rfl⟩
  obtain ⟨X2, hW⟩ : ∃ X, X = w.alloc (.cells #[.int .i64 r.nb, .int .i64 r.nm, .int .i64 r.most, .slice oa r.n ca] 24) := ⟨_, rfl⟩
  rw [← hW] at I0 ⊢
  rw [← hG] at I0 ⊢
  replace I0 := Lib.hid (show Vr r w oa ca g X2 by rw [hG]; rw [hG] at I0; exact I0.out)
  clear hG hW
  obtain ⟨c0, c1, c2, c3, c4⟩ := I0.out.cells
  by_cases h8 : 8 < r.n
  · have z1 : decide (8 < (r.n : Int)) = true := by simp; omega
    have z2 : decide ((r.n : Int) > 8) = true := by simp; omega
    by_cases h14 : r.n ≤ 14
    · have z3 : decide ((r.n : Int) ≤ 14) = true := by simp; omega
      go_wp2_with fail
      refine (awake_any _ I0.out.tt I0.out.t1).mono ?_
      rintro e X3 ⟨rfl, hb⟩
      have HF := Lib.hid (I0.out.on hb).low
      go_wp2_with fail
      go_ret
      exact ⟨rfl, HF.out⟩
    · have z3 : decide ((r.n : Int) ≤ 14) = false := by simp; omega
      by_cases h18 : 18 < r.n
      · have z4 : decide (18 < (r.n : Int)) = true := by simp; omega
        have z5 : decide ((r.n : Int) > 18) = true := by simp; omega
        go_wp2_with fail
        refine (awake_any _ I0.out.tt I0.out.t1).mono ?_
        rintro e X3 ⟨rfl, hb⟩
        have HF := Lib.hid (I0.out.on hb).low
        go_wp2_with fail
        go_ret
        exact ⟨rfl, HF.out⟩
      · have z4 : decide (18 < (r.n : Int)) = false := by simp; omega
        have z5 : decide ((r.n : Int) > 18) = false := by simp; omega
        have hn : r.n ≤ 1000000 := by omega
        go_wp2_with fail
        clear z1 z2 z3 z4 z5 h8 h14 h18
        refine (clash_any r oa ca off _ hn I0.out.tt I0.out.t1 I0.out.tr).mono ?_
        intro e X3 hcp
        obtain ⟨o1, n1, k1, er, rfl⟩ := clash_form hcp
        have hb := hcp.1
        have HCP := Lib.hid hcp
        have I1 := Lib.hid (I0.out.on hb)
        clear I0 c0 c1 c2 c3 c4 hb hcp
        obtain ⟨c0, c1, c2, c3, c4⟩ := I1.out.cells
        go_wp2_with fail
        refine (dclash_any r oa ca off _ hn I1.out.tr).mono ?_
        intro e X4 hdp
        obtain ⟨o2, n2, k2, er2, rfl⟩ := d_form hdp
        have hb := hdp.1
        obtain ⟨rfl, rfl, hn14, f, f2, hI1, hI2, hff⟩ := clash_pair HCP.out hdp
        have I2 := Lib.hid (I1.out.on hb)
        have HSB := Lib.hid (same_of hff)
        have HI := Lib.hid (And.intro hI1 hI2)
        clear I1 c0 c1 c2 c3 c4 hb hdp HCP hI1 hI2 hff
        have z1 : (er2 == er2) = true := by simp
        go_wp2_with fail
        refine (ints_any o1 o2 n2 n2 k1 k2 f f2 X4 (by omega) (by omega) HI.out.1 HI.out.2).mono ?_
        rintro e X5 ⟨rfl, hb⟩
        rw [HSB.out]
        have I3 := Lib.hid (I2.out.on hb)
        clear I2 hb HI HSB
        go_wp2_with fail
        refine (awake_any _ I3.out.tt I3.out.t1).mono ?_
        rintro e X6 ⟨rfl, hb⟩
        have HF := Lib.hid (I3.out.on hb).low
        go_wp2_with fail
        go_ret
        exact ⟨rfl, HF.out⟩
  · have z1 : decide (8 < (r.n : Int)) = false := by simp; omega
    have z2 : decide ((r.n : Int) > 8) = false := by simp; omega
    have z4 : decide (18 < (r.n : Int)) = false := by simp; omega
    have z5 : decide ((r.n : Int) > 18) = false := by simp; omega
    have hn : r.n ≤ 1000000 := by omega
    go_wp2_with fail
    clear z1 z2 z4 z5 h8
    refine (clash_any r oa ca off _ hn I0.out.tt I0.out.t1 I0.out.tr).mono ?_
    intro e X3 hcp
    obtain ⟨o1, n1, k1, er, rfl⟩ := clash_form hcp
    have hb := hcp.1
    have HCP := Lib.hid hcp
    have I1 := Lib.hid (I0.out.on hb)
    clear I0 c0 c1 c2 c3 c4 hb hcp
    obtain ⟨c0, c1, c2, c3, c4⟩ := I1.out.cells
    go_wp2_with fail
    refine (dclash_any r oa ca off _ hn I1.out.tr).mono ?_
    intro e X4 hdp
    obtain ⟨o2, n2, k2, er2, rfl⟩ := d_form hdp
    have hb := hdp.1
    obtain ⟨rfl, rfl, hn14, f, f2, hI1, hI2, hff⟩ := clash_pair HCP.out hdp
    have I2 := Lib.hid (I1.out.on hb)
    have HSB := Lib.hid (same_of hff)
    have HI := Lib.hid (And.intro hI1 hI2)
    clear I1 c0 c1 c2 c3 c4 hb hdp HCP hI1 hI2 hff
    have z1 : (er2 == er2) = true := by simp
    go_wp2_with fail
    refine (ints_any o1 o2 n2 n2 k1 k2 f f2 X4 (by omega) (by omega) HI.out.1 HI.out.2).mono ?_
    rintro e X5 ⟨rfl, hb⟩
    rw [HSB.out]
    have I3 := Lib.hid (I2.out.on hb)
    clear I2 hb HI HSB
    go_wp2_with fail
    refine (awake_any _ I3.out.tt I3.out.t1).mono ?_
    rintro e X6 ⟨rfl, hb⟩
    have HF := Lib.hid (I3.out.on hb).low
    go_wp2_with fail
    go_ret
    exact ⟨rfl, HF.out⟩
end Go.Proofs.YtldodmfmibeoiaaDoor
