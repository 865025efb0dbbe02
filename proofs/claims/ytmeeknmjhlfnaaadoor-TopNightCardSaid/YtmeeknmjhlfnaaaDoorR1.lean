/- The document's side: Test says just if a test is valid. -/
import Derived.Test.YtmeeknmjhlfnaaaDoorW5
import Derived.Deep.QuietTactic
namespace Go.Proofs.YtmeeknmjhlfnaaaDoor
open Go.RowKit
theorem power_b (n : Nat) (w : World) (hn : n ≤ 62) : Calls Tryd.prog 13 #[.int .i64 n] w fun e w' => e = .returned (.int .i64 (2 ^ n : Nat)) ∧ Below w.heap.size w w' :=
  (power_any n w hn).mono fun _ _ ⟨h, h'⟩ => ⟨h, by rw [h']; exact Below.refl _ _⟩
theorem in_b (n low high : Int) (w : World) : Calls Tryd.prog 11 #[.int .i64 n, .int .i64 low, .int .i64 high] w fun e w' => e = .returned (.bool (withinB n low high)) ∧ Below w.heap.size w w' :=
  (in_any n low high w).mono fun _ _ ⟨h, h'⟩ => ⟨h, by rw [← h']; exact Below.refl _ _⟩
theorem has_b (k i : Nat) (w : World) (hk : k ≤ 4611686018427387904) (hi : i ≤ 62) : Calls Tryd.prog 8 #[.int .i64 k, .int .i64 i] w fun e w' => e = .returned (.bool (hasB k i)) ∧ Below w.heap.size w w' :=
  (has_any k i w hk hi).mono fun _ _ ⟨h, h'⟩ => ⟨h, by rw [h']; exact Below.refl _ _⟩
theorem anyB_hit {n k : Nat} {p : Nat → Bool} (h : k < n) (hp : p k = true) : anyB n p = true := anyB_iff.2 ⟨k, h, hp⟩
theorem anyB_none {n : Nat} {p : Nat → Bool} (h : ∀ i, i < n → p i = false) : anyB n p = false := by
  cases h9 : anyB n p
  · rfl
  · obtain ⟨i, hi, hp⟩ := anyB_iff.1 h9
    rw [h i hi] at hp; cases hp
set_option maxRecDepth 100000 in
set_option maxHeartbeats 4000000 in
theorem refTest_any (t : Tst) (oa : Option Addr) (ca : Nat) (ob : Option Addr) (cb : Nat) (w : World) (hn : t.n ≤ 1000000) (hm : t.m ≤ 1000000) (hU : SpnsAt w oa t.n t.u) (hS : StpsAt w ob t.m t.s) :
    Calls Tryd.prog 4 #[t.val oa ca ob cb] w fun e w' => e = .returned (.bool t.valid) ∧ Below w.heap.size w w' := by
  have HU := Lib.hid hU
  have HS := Lib.hid hS
  clear hU hS
  go_enter Tryd.func4, Tryd.ntmps4
  go_upto_region 2 with fail
  have hb0 := below_alloc1 w (.cells #[.slice oa t.n ca, .int .i64 t.leaks, .int .i64 t.least, .slice ob t.m cb] 25)
  have hT : TB t oa ca ob cb w.heap.size (w.alloc (.cells #[.slice oa t.n ca, .int .i64 t.leaks, .int .i64 t.least, .slice ob t.m cb] 25)) := Box.new _ 25 w rfl
  obtain ⟨W, hW⟩ : ∃ X, X = w.alloc (.cells #[.slice oa t.n ca, .int .i64 t.leaks, .int .i64 t.least, .slice ob t.m cb] 25) := ⟨_, rfl⟩
  rw [← hW] at hb0 hT ⊢
  clear hW
  have HB := Lib.hid hT
  have HV := Lib.hid (show t.valid = (t.head && (!anyB t.n (fun i => badU (t.u i)) && !anyB t.m (fun i => badS (top t.n) (t.s i)))) from rfl)
  have HH := Lib.hid (show t.head = (withinB t.n 1 10 && (withinB t.leaks 0 2 && (withinB t.least 1 1073741824 && decide (t.m ≤ 12)))) from rfl)
  obtain ⟨b0, b1, b2, b3, b4⟩ := TB.cells hT
  clear hT
  go_wp2_with fail
  refine (in_any _ _ _ _).mono ?_
  rintro e w1 ⟨rfl, rfl⟩
  rcases h1 : withinB t.n 1 10
  case false =>
    have E := Lib.hid (show t.valid = false by rw [HV.out, HH.out, h1]; rfl)
    clear h1
    clear HV HH
    go_wp2
    go_ret
    exact ⟨ret_bool (by rw [E.out]), hb0⟩
  go_wp2_with fail
  refine (in_any _ _ _ _).mono ?_
  rintro e w1 ⟨rfl, rfl⟩
  rcases h2 : withinB t.leaks 0 2
  case false =>
    have E := Lib.hid (show t.valid = false by rw [HV.out, HH.out, h2]; simp)
    clear h1 h2
    clear HV HH
    go_wp2
    go_ret
    exact ⟨ret_bool (by rw [E.out]), hb0⟩
  go_wp2_with fail
  refine (in_any _ _ _ _).mono ?_
  rintro e w1 ⟨rfl, rfl⟩
  rcases h3 : withinB t.least 1 1073741824
  case false =>
    have E := Lib.hid (show t.valid = false by rw [HV.out, HH.out, h3]; simp)
    clear h1 h2 h3
    clear HV HH
    go_wp2
    go_ret
    exact ⟨ret_bool (by rw [E.out]), hb0⟩
  by_cases h4 : t.m ≤ 12
  case neg =>
    have E := Lib.hid (show t.valid = false by rw [HV.out, HH.out, decide_eq_false h4]; simp)
    have z : decide (12 < t.m) = true := by simp; omega
    clear h1 h2 h3
    clear HV HH
    go_wp2
    go_ret
    exact ⟨ret_bool (by rw [E.out]), hb0⟩
  have z : decide (12 < t.m) = false := by simp; omega
  have hn1 : 1 ≤ t.n ∧ t.n ≤ 10 := by simp only [withinB, decide_eq_true_eq] at h1; omega
  have HV2 := Lib.hid (show t.valid = (!anyB t.n (fun i => badU (t.u i)) && !anyB t.m (fun i => badS (top t.n) (t.s i))) by rw [HV.out, HH.out, h1, h2, h3, decide_eq_true h4]; rfl)
  obtain ⟨hn0, hn2⟩ := hn1
  clear HV HH h1 h2 h3
  go_wp2_with fail
  go_loopw [4] (fun v4 wr => ∃ k : Nat, k ≤ t.n ∧ v4 = .int .i64 k ∧ Below W.heap.size W wr ∧ ∀ i, i < k → badU (t.u i) = false) (fun i _ => t.n - (intOf i).toNat)
  case atStart => exact ⟨0, Nat.zero_le _, rfl, Below.refl _ _, fun i hi => by omega⟩
  case round =>
    obtain ⟨k, hk, rfl, hbr, hno⟩ := hrel
    have HNO := Lib.hid hno
    clear hno
    obtain ⟨c0, c1, c2, c3, c4⟩ := TB.cells (Box.below HB.out hbr)
    have hbw := hb0.trans (hbr.mono hb0.size)
    by_cases hlt : k < t.n
    · have hd : decide (k < t.n) = true := by simpa using hlt
      obtain ⟨b, off, rfl, hlt0, d0, d1⟩ := (HU.out.mono hbw) k hlt
      cases hbad : badU (t.u k)
      · have HBD := Lib.hid (show spanB (t.u k) 0 1073741824 = true by simpa [badU, litB] using hbad)
        have HB2 := Lib.hid hbad
        clear hbad
        go_wp2_with fail
        refine (refSpan_any (t.u k) _ _ _).mono ?_
        rintro e w1 ⟨rfl, hb1⟩
        rw [HBD.out]
        go_wp2_with fail
        go_roundw
        case rel => exact ⟨k + 1, by omega, by go_num, hbr.trans (hb1.mono hbr.size), fun i hi => by
          by_cases h : i = k
          · subst h; exact HB2.out
          · exact HNO.out i (by omega)⟩
        case measure => simp [intOf]; omega
      · have HBD := Lib.hid (show spanB (t.u k) 0 1073741824 = false by simpa [badU, litB] using hbad)
        have E := Lib.hid (show t.valid = false by rw [HV2.out, anyB_hit hlt hbad]; rfl)
        clear hbad
        go_wp2_with fail
        refine (refSpan_any (t.u k) _ _ _).mono ?_
        rintro e w1 ⟨rfl, hb1⟩
        rw [HBD.out]
        go_wp2_with fail
        go_ret
        exact ⟨ret_bool (by rw [E.out]), hbw.trans (hb1.mono hbw.size)⟩
    · have hd : decide (k < t.n) = false := by simpa using hlt
      have EU := Lib.hid (anyB_none (n := t.n) (p := fun i => badU (t.u i)) (fun i hi => HNO.out i (by omega)))
      have HV3 := Lib.hid (show t.valid = !anyB t.m (fun i => badS (top t.n) (t.s i)) by rw [HV2.out, EU.out]; rfl)
      have HBX := Lib.hid (Box.below HB.out hbr)
      obtain ⟨W2, hW2⟩ : ∃ X, X = wr := ⟨_, rfl⟩
      rw [← hW2] at c0 c1 c2 c3 c4 hbw HBX ⊢
      clear hW2 hbr HNO EU
      obtain ⟨M, hM⟩ : ∃ M, M = 2 ^ t.n := ⟨_, rfl⟩
      have hM2 := pow_ten hn2
      have hM1 := Nat.two_pow_pos t.n
      have HP := Lib.hid (fun W => power_b t.n W (by omega))
      have HTOP := Lib.hid (show top t.n = (M : Int) - 1 by unfold top; rw [hM])
      rw [← hM] at hM2 hM1 HP
      clear hM
      go_wp2_with fail
      go_loopw [5] (fun v5 wr => ∃ k : Nat, k ≤ t.m ∧ v5 = .int .i64 k ∧ Below W2.heap.size W2 wr ∧ ∀ i, i < k → badS (top t.n) (t.s i) = false) (fun i _ => t.m - (intOf i).toNat)
      case atStart => exact ⟨0, Nat.zero_le _, rfl, Below.refl _ _, fun i hi => by omega⟩
      case round =>
        obtain ⟨j, hj, rfl, hbs, hno⟩ := hrel
        have HNO := Lib.hid hno
        have hbv := hbw.trans (hbs.mono hbw.size)
        have hT3 := Box.below HBX.out hbs
        clear hno c0 c1 c2 c3 c4 b0 b1 b2 b3 b4
        obtain ⟨c0, c1, c2, c3, c4⟩ := TB.cells hT3
        by_cases hlj : j < t.m
        · have hdj : decide (j < t.m) = true := by simpa using hlj
          have HSW := Lib.hid (HS.out.mono hbv)
          obtain ⟨b, off, rfl, hlt0, d0, d1, d2⟩ := HSW.out j hlj
          have f0 : ∀ W : Aft wr, W.val.cell? ⟨w.heap.size, 3, none⟩ = some (.slice (some ⟨b, off, none⟩) t.m cb) := fun W => (W.below.cell (p := ⟨w.heap.size, 3, none⟩) c4).trans c3
          have f1 : ∀ W : Aft wr, W.val.cell? ⟨b, off + j * 3, none⟩ = some (.int .i64 (t.s j).shut) := fun W => (W.below.cell (p := ⟨b, off + j * 3, none⟩) hlt0).trans d0
          have f2 : ∀ W : Aft wr, W.val.cell? ⟨b, off + j * 3 + 1, none⟩ = some (.int .i64 (t.s j).flow.lo) := fun W => (W.below.cell (p := ⟨b, off + j * 3 + 1, none⟩) hlt0).trans d1
          have f3 : ∀ W : Aft wr, W.val.cell? ⟨b, off + j * 3 + 1 + 1, none⟩ = some (.int .i64 (t.s j).flow.hi) := fun W => (W.below.cell (p := ⟨b, off + j * 3 + 1 + 1, none⟩) hlt0).trans d2
          cases hw1 : withinB (t.s j).shut 0 ((M : Int) - 1)
          · have HI := Lib.hid (show ∀ W, Calls Tryd.prog 11 #[.int .i64 (t.s j).shut, .int .i64 0, .int .i64 ((M : Int) - 1)] W fun e w' => e = .returned (.bool false) ∧ Below W.heap.size W w' from fun W => by rw [← hw1]; exact in_b _ _ _ _)
            have E := Lib.hid (show t.valid = false by rw [HV3.out, anyB_hit hlj (by unfold badS; rw [HTOP.out, hw1]; rfl)]; rfl)
            clear hw1 d0 d1 d2
            go_wp2_with fail
            refine wp_region_aft (by kernel_rfl) (by kernel_rfl) ?_
            repeat (go_big_quiet_step ((first | (go_at_call 13; exact aft_call (HP.out _)) | (go_at_call 11; exact aft_call (HI.out _)))))
            refine wpQuiet_nil ?_
            intro WA
            obtain ⟨wy, hwy⟩ : ∃ X, X = WA.val := ⟨_, rfl⟩
            have hby := WA.below
            rw [← hwy] at hby ⊢
            clear hwy WA
            go_wp2_with fail
            go_ret
            exact ⟨ret_bool (by rw [E.out]), hbv.trans (hby.mono hbv.size)⟩
          · have HI := Lib.hid (show ∀ W, Calls Tryd.prog 11 #[.int .i64 (t.s j).shut, .int .i64 0, .int .i64 ((M : Int) - 1)] W fun e w' => e = .returned (.bool true) ∧ Below W.heap.size W w' from fun W => by rw [← hw1]; exact in_b _ _ _ _)
            cases hw2 : spanB (t.s j).flow 0 1073741824
            · have HF := Lib.hid (show ∀ W, Calls Tryd.prog 12 #[(t.s j).flow.val, .int .i64 0, .int .i64 1073741824] W fun e w' => e = .returned (.bool false) ∧ Below W.heap.size W w' from fun W => by rw [← hw2]; exact refSpan_any _ _ _ _)
              have E := Lib.hid (show t.valid = false by rw [HV3.out, anyB_hit hlj (by unfold badS litB; rw [HTOP.out, hw1, hw2]; rfl)]; rfl)
              clear hw1 hw2 d0 d1 d2
              go_wp2_with fail
              refine wp_region_aft (by kernel_rfl) (by kernel_rfl) ?_
              repeat (go_big_quiet_step ((first | (go_at_call 13; exact aft_call (HP.out _)) | (go_at_call 11; exact aft_call (HI.out _)) | (go_at_call 12; exact aft_call (HF.out _)))))
              refine wpQuiet_nil ?_
              intro WA
              obtain ⟨wy, hwy⟩ : ∃ X, X = WA.val := ⟨_, rfl⟩
              have hby := WA.below
              rw [← hwy] at hby ⊢
              clear hwy WA
              go_wp2_with fail
              go_ret
              exact ⟨ret_bool (by rw [E.out]), hbv.trans (hby.mono hbv.size)⟩
            · have HF := Lib.hid (show ∀ W, Calls Tryd.prog 12 #[(t.s j).flow.val, .int .i64 0, .int .i64 1073741824] W fun e w' => e = .returned (.bool true) ∧ Below W.heap.size W w' from fun W => by rw [← hw2]; exact refSpan_any _ _ _ _)
              have E := Lib.hid (show badS (top t.n) (t.s j) = false by unfold badS litB; rw [HTOP.out, hw1, hw2]; rfl)
              clear hw1 hw2 d0 d1 d2
              go_wp2_with fail
              refine wp_region_aft (by kernel_rfl) (by kernel_rfl) ?_
              repeat (go_big_quiet_step ((first | (go_at_call 13; exact aft_call (HP.out _)) | (go_at_call 11; exact aft_call (HI.out _)) | (go_at_call 12; exact aft_call (HF.out _)))))
              refine wpQuiet_nil ?_
              intro WA
              obtain ⟨wy, hwy⟩ : ∃ X, X = WA.val := ⟨_, rfl⟩
              have hby := WA.below
              rw [← hwy] at hby ⊢
              clear hwy WA
              go_wp2_with fail
              go_roundw
              case rel => exact ⟨j + 1, by omega, by go_num, hbs.trans (hby.mono hbs.size), fun i hi => by
                by_cases h : i = j
                · subst h; exact E.out
                · exact HNO.out i (by omega)⟩
              case measure => simp [intOf]; omega
        · have hdj : decide (j < t.m) = false := by simpa using hlj
          have E := Lib.hid (show t.valid = true by rw [HV3.out, anyB_none (n := t.m) (p := fun i => badS (top t.n) (t.s i)) (fun i hi => HNO.out i (by omega))]; rfl)
          go_wp2_with fail
          go_ret
          exact ⟨ret_bool (by rw [E.out]), hbv⟩
end Go.Proofs.YtmeeknmjhlfnaaaDoor
