/- Travel: isRound says just if a round is valid; check returns the error of a round and a suspicion; all returns the set of all trips. -/
import Derived.Test.YtlofopnjjeeehaaDoorV3
namespace Go.Proofs.YtlofopnjjeeehaaDoor
open Go.RowKit
/-- a trip is not valid -/
def badT (nb nm : Int) (t : Trp) : Bool := !withinB t.b 0 (nb - 1) || (!withinB t.m 0 (nm - 1) || decide (t.lo < -100000 ∨ t.hi < t.lo ∨ 100000 < t.hi))
def Rnd.head (r : Rnd) : Bool := withinB r.nb 1 6 && (withinB r.nm 1 6 && (withinB r.most 0 100000 && decide (r.n ≤ 14)))
def Rnd.valid (r : Rnd) : Bool := r.head && !anyB r.n (fun i => badT r.nb r.nm (r.t i))
/-- the cells of a round -/
abbrev Rnd.cells (r : Rnd) (oa : Option Addr) (ca : Nat) : Array Value := #[.int .i64 r.nb, .int .i64 r.nm, .int .i64 r.most, .slice oa r.n ca]
set_option maxHeartbeats 2000000 in
theorem badT_any (nb nm : Int) (t : Trp) (g : Nat) (w : World) (b1 : 1 ≤ nb) (b2 : nb ≤ 6) (m1 : 1 ≤ nm) (m2 : nm ≤ 6) (hblk : g < w.heap.size) (hc0 : w.cell? ⟨g, 0, none⟩ = some (.int .i64 nb)) (hc1 : w.cell? ⟨g, 1, none⟩ = some (.int .i64 nm)) :
    Calls Tryd.prog 39 #[t.val, .pointer (some ⟨g, 0, none⟩)] w fun e w' => e = .returned (.bool (badT nb nm t)) ∧ Below w.heap.size w w' := by
  go_enter Tryd.func39, Tryd.ntmps39
  obtain ⟨q1, h1⟩ : ∃ q, q = withinB t.b 0 (nb - 1) := ⟨_, rfl⟩
  obtain ⟨q2, h2⟩ : ∃ q, q = withinB t.m 0 (nm - 1) := ⟨_, rfl⟩
  have HE := Lib.hid (show badT nb nm t = (!q1 || (!q2 || decide (t.lo < -100000 ∨ t.hi < t.lo ∨ 100000 < t.hi))) by rw [h1, h2]; rfl)
  have H1 := Lib.hid h1.symm
  have H2 := Lib.hid h2.symm
  clear h1 h2
  go_wp2_with fail
  refine (within_any _ _ _ _).mono ?_
  rintro e w1 ⟨rfl, rfl⟩
  rw [H1.out]
  cases q1
  · go_wp2
    go_ret
    exact ⟨ret_bool (by rw [HE.out]; rfl), below_alloc1 w _⟩
  · go_wp2_with fail
    refine (within_any _ _ _ _).mono ?_
    rintro e w1 ⟨rfl, rfl⟩
    rw [H2.out]
    cases q2
    · go_wp2
      go_ret
      exact ⟨ret_bool (by rw [HE.out]; rfl), below_alloc1 w _⟩
    · go_wp2
      all_goals (go_ret; exact ⟨ret_bool (by rw [HE.out, Bool.eq_iff_iff]; simp; omega), below_alloc1 w _⟩)
set_option maxHeartbeats 2000000 in
theorem indexTrips_any (oa : Option Addr) (n cap : Nat) (t : Nat → Trp) (w : World) (hn : n ≤ 1000000) (hT : TrpsAt w oa n t) (nb nm : Int) (g : Nat) (b1 : 1 ≤ nb) (b2 : nb ≤ 6) (m1 : 1 ≤ nm) (m2 : nm ≤ 6) (hblk : g < w.heap.size) (hc0 : w.cell? ⟨g, 0, none⟩ = some (.int .i64 nb)) (hc1 : w.cell? ⟨g, 1, none⟩ = some (.int .i64 nm)) :
    Calls Tryd.prog 43 #[.slice oa n cap, .func (.func 39) #[] #[.pointer (some ⟨g, 0, none⟩)]] w fun e w' => ∃ r : Int, e = .returned (.int .i64 r) ∧ (0 ≤ r ↔ anyB n (fun i => badT nb nm (t i)) = true) ∧ Below w.heap.size w w' := by
  have HT := Lib.hid hT
  clear hT
  go_enter Tryd.func43, Tryd.ntmps43
  go_wp2
  go_loopw [5, 8] (fun v5 v8 wr => ∃ k : Nat, k ≤ n ∧ v8 = .int .i64 k ∧ Below w.heap.size w wr ∧ ∀ i, i < k → (badT nb nm (t i)) = false) (fun _ i _ => n - (intOf i).toNat)
  case atStart => exact ⟨0, Nat.zero_le _, rfl, Below.refl _ _, fun i hi => by omega⟩
  case round =>
    obtain ⟨k, hk, rfl, hb0, hno⟩ := hrel
    have HNO := Lib.hid hno
    clear hno
    by_cases hlt : k < n
    · obtain ⟨b, off, rfl, hlt0, c0, c1, c2, c3⟩ := (HT.out.mono hb0) k hlt
      have hblk1 : g < wr.heap.size := Nat.lt_of_lt_of_le hblk hb0.size
      have hd0 := (hb0.cell (p := ⟨g, 0, none⟩) hblk).trans hc0
      have hd1 := (hb0.cell (p := ⟨g, 1, none⟩) hblk).trans hc1
      by_cases hbad : (badT nb nm (t k)) = true
      · have HB := Lib.hid hbad
        go_wp2_with (go_at_call 39; refine (badT_any nb nm _ g _ b1 b2 m1 m2 hblk1 hd0 hd1).mono ?_; rintro e w1 ⟨rfl, hb1⟩)
        go_ret
        exact ⟨k, rfl, ⟨fun _ => anyB_iff.2 ⟨k, hlt, HB.out⟩, fun _ => by omega⟩, hb0.trans (hb1.mono hb0.size)⟩
      · replace hbad : (badT nb nm (t k)) = false := by simpa using hbad
        have HB := Lib.hid hbad
        go_wp2_with (go_at_call 39; refine (badT_any nb nm _ g _ b1 b2 m1 m2 hblk1 hd0 hd1).mono ?_; rintro e w1 ⟨rfl, hb1⟩)
        go_roundw
        case rel => exact ⟨k + 1, by omega, by go_num, hb0.trans (hb1.mono hb0.size), fun i hi => by
          by_cases h : i = k
          · subst h; exact HB.out
          · exact HNO.out i (by omega)⟩
        case measure => simp [intOf]; omega
    · go_wp2
      go_ret
      exact ⟨-1, rfl, ⟨fun h => by omega, fun h => by
        obtain ⟨i, hi, hp⟩ := anyB_iff.1 h
        rw [HNO.out i (by omega)] at hp
        simp at hp⟩, hb0⟩
set_option maxHeartbeats 1000000 in
theorem containsTrips_any (oa : Option Addr) (n cap : Nat) (t : Nat → Trp) (w : World) (hn : n ≤ 1000000) (hT : TrpsAt w oa n t) (nb nm : Int) (g : Nat) (b1 : 1 ≤ nb) (b2 : nb ≤ 6) (m1 : 1 ≤ nm) (m2 : nm ≤ 6) (hblk : g < w.heap.size) (hc0 : w.cell? ⟨g, 0, none⟩ = some (.int .i64 nb)) (hc1 : w.cell? ⟨g, 1, none⟩ = some (.int .i64 nm)) :
    Calls Tryd.prog 40 #[.slice oa n cap, .func (.func 39) #[] #[.pointer (some ⟨g, 0, none⟩)]] w fun e w' => e = .returned (.bool (anyB n fun i => badT nb nm (t i))) ∧ Below w.heap.size w w' := by
  have HT := Lib.hid hT
  clear hT
  go_enter Tryd.func40, Tryd.ntmps40
  go_wp2_with fail
  refine (indexTrips_any oa n cap t _ hn HT.out nb nm g b1 b2 m1 m2 hblk hc0 hc1).mono ?_
  rintro e w1 ⟨r, rfl, hr, hb⟩
  have HR := Lib.hid hr
  clear hr
  by_cases h0 : 0 ≤ r
  · go_wp2
    go_ret
    exact ⟨ret_bool (by rw [HR.out.1 h0]), hb⟩
  · go_wp2
    go_ret
    exact ⟨ret_bool (by
      have : ¬ anyB n (fun i => badT nb nm (t i)) = true := fun h => by have := HR.out.2 h; omega
      simp only [Bool.not_eq_true] at this
      rw [this]; simp; omega), hb⟩
set_option maxHeartbeats 4000000 in
theorem isRound_any (r : Rnd) (oa : Option Addr) (ca : Nat) (w : World) (hn : r.n ≤ 1000000) (hA : TrpsAt w oa r.n r.t) :
    Calls Tryd.prog 28 #[r.val oa ca] w fun e w' => e = .returned (.bool r.valid) ∧ Below w.heap.size w w' := by
  have HA := Lib.hid hA
  clear hA
  go_enter Tryd.func28, Tryd.ntmps28
  go_upto_region 2 with fail
  have hb0 := below_alloc1 w (.cells #[.int .i64 r.nb, .int .i64 r.nm, .int .i64 r.most, .slice oa r.n ca] 29)
  have hT := Box.new (g := w.heap.size) #[.int .i64 r.nb, .int .i64 r.nm, .int .i64 r.most, .slice oa r.n ca] 29 w rfl
  obtain ⟨W, hW⟩ : ∃ X, X = w.alloc (.cells #[.int .i64 r.nb, .int .i64 r.nm, .int .i64 r.most, .slice oa r.n ca] 29) := ⟨_, rfl⟩
  rw [← hW] at hb0 hT ⊢
  clear hW
  have HV := Lib.hid (show r.valid = (r.head && !anyB r.n (fun i => badT r.nb r.nm (r.t i))) from rfl)
  have HH := Lib.hid (show r.head = (withinB r.nb 1 6 && (withinB r.nm 1 6 && (withinB r.most 0 100000 && decide (r.n ≤ 14)))) from rfl)
  have b0 := hT.cell 0 rfl
  have b1 := hT.cell 1 rfl
  have b2 := hT.cell 2 rfl
  have b3 := hT.cell 3 rfl
  have b4 := hT.lt
  clear hT
  go_wp2_with fail
  refine (within_any _ _ _ _).mono ?_
  rintro e w1 ⟨rfl, rfl⟩
  rcases h1 : withinB r.nb 1 6
  case false =>
    have E := Lib.hid (show r.valid = false by rw [HV.out, HH.out, h1]; rfl)
    clear h1
    go_wp2
    go_ret
    exact ⟨ret_bool (by rw [E.out]), hb0⟩
  go_wp2_with fail
  refine (within_any _ _ _ _).mono ?_
  rintro e w1 ⟨rfl, rfl⟩
  rcases h2 : withinB r.nm 1 6
  case false =>
    have E := Lib.hid (show r.valid = false by rw [HV.out, HH.out, h2]; simp)
    clear h1 h2
    go_wp2
    go_ret
    exact ⟨ret_bool (by rw [E.out]), hb0⟩
  go_wp2_with fail
  refine (within_any _ _ _ _).mono ?_
  rintro e w1 ⟨rfl, rfl⟩
  rcases h3 : withinB r.most 0 100000
  case false =>
    have E := Lib.hid (show r.valid = false by rw [HV.out, HH.out, h3]; simp)
    clear h1 h2 h3
    go_wp2
    go_ret
    exact ⟨ret_bool (by rw [E.out]), hb0⟩
  by_cases h4 : r.n ≤ 14
  case neg =>
    have E := Lib.hid (show r.valid = false by rw [HV.out, HH.out, decide_eq_false h4]; simp)
    have z : decide ((r.n : Int) ≤ 14) = false := by simp; omega
    clear h1 h2 h3
    go_wp2
    go_ret
    exact ⟨ret_bool (by rw [E.out]), hb0⟩
  have z : decide ((r.n : Int) ≤ 14) = true := by simp; omega
  have hn1 : 1 ≤ r.nb ∧ r.nb ≤ 6 := by simp only [withinB, decide_eq_true_eq] at h1; exact h1
  have hn2 : 1 ≤ r.nm ∧ r.nm ≤ 6 := by simp only [withinB, decide_eq_true_eq] at h2; exact h2
  have HV2 := Lib.hid (show r.valid = (!anyB r.n (fun i => badT r.nb r.nm (r.t i))) by rw [HV.out, HH.out, h1, h2, h3, decide_eq_true h4]; rfl)
  clear h1 h2 h3
  go_wp2_with fail
  refine (containsTrips_any oa r.n ca r.t _ hn (HA.out.mono hb0) r.nb r.nm w.heap.size hn1.1 hn1.2 hn2.1 hn2.2 b4 b0 b1).mono ?_
  rintro e w3 ⟨rfl, hb3⟩
  go_wp2
  go_ret
  exact ⟨ret_bool (by rw [HV2.out]), hb0.trans (hb3.mono hb0.size)⟩
/-- the error of a round and a suspicion -/
def Rnd.err (r : Rnd) (off : Int) : Int := if r.valid = false then 1 else if withinB off (-1) (r.nb - 1) = false then 2 else 0
theorem Rnd.valid_head {r : Rnd} (h : r.valid = true) : (1 ≤ r.nb ∧ r.nb ≤ 6) ∧ (1 ≤ r.nm ∧ r.nm ≤ 6) ∧ (0 ≤ r.most ∧ r.most ≤ 100000) ∧ r.n ≤ 14 := by
  unfold Rnd.valid at h
  simp only [Bool.and_eq_true] at h
  have h := h.1
  unfold Rnd.head at h
  simp only [Bool.and_eq_true, withinB, decide_eq_true_eq] at h
  exact h
theorem Rnd.valid_trip {r : Rnd} (h : r.valid = true) {i : Nat} (hi : i < r.n) : 0 ≤ (r.t i).b ∧ (r.t i).b < r.nb ∧ 0 ≤ (r.t i).m ∧ (r.t i).m < r.nm ∧ -100000 ≤ (r.t i).lo ∧ (r.t i).lo ≤ (r.t i).hi ∧ (r.t i).hi ≤ 100000 := by
  unfold Rnd.valid at h
  simp only [Bool.and_eq_true, Bool.not_eq_true'] at h
  have h9 : badT r.nb r.nm (r.t i) = false := by
    cases h8 : badT r.nb r.nm (r.t i)
    · rfl
    · have h7 : anyB r.n (fun i => badT r.nb r.nm (r.t i)) = true := (anyB_iff (p := fun i => badT r.nb r.nm (r.t i))).2 ⟨i, hi, h8⟩
      rw [h.2] at h7
      cases h7
  unfold badT at h9
  simp only [Bool.or_eq_false_iff, Bool.not_eq_false', withinB, decide_eq_true_eq, decide_eq_false_iff_not] at h9
  omega
theorem Rnd.valid_ok {r : Rnd} (h : r.valid = true) : ∀ i, i < r.n → (r.t i).ok := fun i hi => by
  have h1 := r.valid_trip h hi
  have h2 := r.valid_head h
  unfold Trp.ok
  omega
set_option maxHeartbeats 4000000 in
theorem check_any (r : Rnd) (oa : Option Addr) (ca : Nat) (off : Int) (w : World) (hn : r.n ≤ 1000000) (hA : TrpsAt w oa r.n r.t) :
    Calls Tryd.prog 14 #[r.val oa ca, .int .i64 off] w fun e w' => e = .returned (.int .i64 (r.err off)) ∧ Below w.heap.size w w' := by
  have HA := Lib.hid hA
  clear hA
  go_enter Tryd.func14, Tryd.ntmps14
  go_wp2_with fail
  have hb0 := below_alloc1 w (.cells #[.int .i64 r.nb, .int .i64 r.nm, .int .i64 r.most, .slice oa r.n ca] 29)
  have hT := Box.new (g := w.heap.size) #[.int .i64 r.nb, .int .i64 r.nm, .int .i64 r.most, .slice oa r.n ca] 29 w rfl
  obtain ⟨W, hW⟩ : ∃ X, X = w.alloc (.cells #[.int .i64 r.nb, .int .i64 r.nm, .int .i64 r.most, .slice oa r.n ca] 29) := ⟨_, rfl⟩
  rw [← hW] at hb0 hT ⊢
  clear hW
  refine (isRound_any r oa ca _ hn (HA.out.mono hb0)).mono ?_
  rintro e w1 ⟨rfl, hb1⟩
  have hb2 := hb0.trans (hb1.mono hb0.size)
  have hT1 := hT.below hb1
  rcases hv : r.valid
  · have E := Lib.hid (show r.err off = 1 by unfold Rnd.err; rw [if_pos hv])
    clear hv
    go_wp2
    go_ret
    exact ⟨ret_int (by rw [E.out]), hb2⟩
  · have hh := Rnd.valid_head hv
    have E := Lib.hid (show r.err off = if withinB off (-1) (r.nb - 1) = false then 2 else 0 by unfold Rnd.err; rw [if_neg (by rw [hv]; simp)])
    have b0 := hT1.cell 0 rfl
    have b4 := hT1.lt
    have k1 := hh.1.1
    have k2 := hh.1.2
    clear hv hh hT hT1
    go_wp2_with fail
    refine (within_any _ _ _ _).mono ?_
    rintro e w3 ⟨rfl, rfl⟩
    rcases h1 : withinB off (-1) (r.nb - 1)
    · have E2 := Lib.hid (show r.err off = 2 by rw [E.out, if_pos h1])
      clear h1
      go_wp2
      go_ret
      exact ⟨ret_int (by rw [E2.out]), hb2⟩
    · have E2 := Lib.hid (show r.err off = 0 by rw [E.out, if_neg (by rw [h1]; simp)])
      clear h1
      go_wp2
      go_ret
      exact ⟨ret_int (by rw [E2.out]), hb2⟩
theorem top_all : (List.range 15).all (fun n => decide (wrap64 (wrap64 ((2 : Int) ^ n) - 1) = ((2 ^ n - 1 : Nat) : Int) ∧ 2 ^ n ≤ 16384)) = true := by kernel_rfl
theorem top_wrap {n : Nat} (h : n ≤ 14) : wrap64 (wrap64 ((2 : Int) ^ n) - 1) = ((2 ^ n - 1 : Nat) : Int) ∧ 2 ^ n ≤ 16384 := of_decide_eq_true (List.all_eq_true.1 top_all n (List.mem_range.2 (by omega)))
set_option maxHeartbeats 4000000 in
theorem all_any (r : Rnd) (oa : Option Addr) (ca : Nat) (w : World) (hn : r.n ≤ 14) :
    Calls Tryd.prog 16 #[r.val oa ca] w fun e w' => e = .returned (.int .i64 (2 ^ r.n - 1 : Nat)) ∧ Below w.heap.size w w' := by
  have H := Lib.hid (top_wrap hn)
  go_enter Tryd.func16, Tryd.ntmps16
  go_wp2
  go_ret
  exact ⟨ret_int H.out.1, below_alloc1 w _⟩
end Go.Proofs.YtlofopnjjeeehaaDoor
