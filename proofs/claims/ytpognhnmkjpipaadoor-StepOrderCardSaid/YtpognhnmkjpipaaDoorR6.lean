/- The document's side: leak, all leaks of a street. -/
import Derived.Test.YtpognhnmkjpipaaDoorR5
namespace Go.Proofs.YtpognhnmkjpipaaDoor
open Go.RowKit
def spOf (o : Option Spn) : Spn := o.getD ⟨0, 0⟩
def addO (acc o : Option Spn) : Option Spn := match o with
  | none => acc
  | some s => some (addS (spOf acc) acc.isSome s)
def leakK (t : Tst) (x : Nat) : Nat → Option Spn
  | 0 => if 1 ≤ t.leaks then addO none (oneR t x) else none
  | k + 1 => if k = x then leakK t x k else addO (leakK t x k) (twoR t x k)
def leakO (t : Tst) (x : Nat) : Option Spn := if 2 ≤ t.leaks then leakK t x t.n else leakK t x 0
/-- the boxes of leak -/
structure KI (t : Tst) (oa : Option Addr) (ca : Nat) (ob : Option Addr) (cb : Nat) (w : World) (o : Option Spn) (W : World) : Prop where
  low : Below w.heap.size w W
  hT : TB t oa ca ob cb w.heap.size W
  hR : Box (w.heap.size + 1) #[.int .i64 0, .int .i64 0] 37 W
  hO : Box (w.heap.size + 1 + 1) #[.int .i64 (spOf o).lo, .int .i64 (spOf o).hi] 37 W
theorem KI.on {t : Tst} {oa : Option Addr} {ca : Nat} {ob : Option Addr} {cb : Nat} {w : World} {o : Option Spn} {A B : World} (h : KI t oa ca ob cb w o A) (hb : Below A.heap.size A B) : KI t oa ca ob cb w o B :=
  ⟨h.low.trans (hb.mono h.low.size), h.hT.below hb, h.hR.below hb, h.hO.below hb⟩
theorem KI.put {t : Tst} {oa : Option Addr} {ca : Nat} {ob : Option Addr} {cb : Nat} {w : World} {o : Option Spn} {A : World} (h : KI t oa ca ob cb w o A) (q : Spn) (o' : Option Spn) (hq : spOf o' = q) : KI t oa ca ob cb w o' ((A.setCell ⟨w.heap.size + 1 + 1, 0, none⟩ (.int .i64 q.lo)).setCell ⟨w.heap.size + 1 + 1, 1, none⟩ (.int .i64 q.hi)) := by
  have ho := ((Only.refl (w.heap.size + 1 + 1) A).setCell 0 (.int .i64 q.lo)).setCell 1 (.int .i64 q.hi)
  exact ⟨h.low.trans (ho.below (by omega)), ho.box h.hT (by omega), ho.box h.hR (by omega), by rw [hq]; exact h.hO.set2 _ _⟩
set_option maxRecDepth 100000 in
set_option maxHeartbeats 8000000 in
theorem leakRef_any (t : Tst) (hk : t.Ok) (oa : Option Addr) (ca : Nat) (ob : Option Addr) (cb : Nat) (x : Nat) (hx : x < 10) (w : World) (hU : SpnsAt w oa t.n t.u) (hS : StpsAt w ob t.m t.s) :
    Calls Tryd.prog 31 #[t.val oa ca ob cb, .int .i64 (x : Nat)] w fun e w' => e = .returned (.tuple #[(spOf (leakO t x)).val, .bool (leakO t x).isSome]) ∧ Below w.heap.size w w' := by
  have HU := Lib.hid hU
  have HS := Lib.hid hS
  have HK := Lib.hid hk
  have hn2 := hk.n2
  clear hU hS hk
  go_enter Tryd.func31, Tryd.ntmps31
  go_upto_region 3 with fail
  have hI0 : KI t oa ca ob cb w none (((w.alloc (.cells #[.slice oa t.n ca, .int .i64 t.leaks, .int .i64 t.least, .slice ob t.m cb] 25)).alloc (.cells #[.int .i64 0, .int .i64 0] 37)).alloc (.cells #[.int .i64 0, .int .i64 0] 37)) := ⟨(by repeat' (first | exact Below.refl _ _ | assumption | apply below_drewN | apply Below.drew | (refine Below.alloc ?_ ?_ _) | (refine Below.setCell ?_ ?_ _) | (simp; done) | (simp; omega) | omega)), ((Box.new _ 25 w rfl).old _).old _, (Box.new _ 37 _ (by simp)).old _, Box.new _ 37 _ (by simp)⟩
  obtain ⟨W, hW⟩ : ∃ X, X = (((w.alloc (.cells #[.slice oa t.n ca, .int .i64 t.leaks, .int .i64 t.least, .slice ob t.m cb] 25)).alloc (.cells #[.int .i64 0, .int .i64 0] 37)).alloc (.cells #[.int .i64 0, .int .i64 0] 37)) := ⟨_, rfl⟩
  rw [← hW] at hI0 ⊢
  clear hW
  obtain ⟨c0, c1, c2, c3, c4⟩ := TB.cells hI0.hT
  have KW0 := Lib.hid hI0
  clear hI0
  go_upto_if 15 with fail
  go_cut [7, 8, 9] from 13 to 26 (fun s7 s8 s9 wx => s7 = .bool (leakK t x 0).isSome ∧ KI t oa ca ob cb w (leakK t x 0) wx)
  case first =>
    by_cases hl : 1 ≤ t.leaks
    · have hd : decide (1 ≤ t.leaks) = true := by simpa using hl
      go_wp2_with fail
      refine (one_any t HK.out oa ca ob cb x hx _ (HU.out.mono KW0.out.low) (HS.out.mono KW0.out.low)).mono ?_
      rintro e w2 ⟨hb2, sp, rfl, hsp⟩
      have KW1 := Lib.hid (KW0.out.on hb2)
      cases ho : oneR t x with
      | none =>
        have E := Lib.hid (show leakK t x 0 = none by show (if _ then _ else _) = _; rw [if_pos hl, ho]; rfl)
        clear ho hsp
        go_wp2_with fail
        go_meet
        exact ⟨by rw [E.out]; rfl, by rw [E.out]; exact KW1.out.on (below_alloc1 _ _)⟩
      | some s9 =>
        obtain rfl : s9 = sp := (hsp s9 ho).symm
        have E := Lib.hid (show leakK t x 0 = some (addS (spOf none) false s9) by show (if _ then _ else _) = _; rw [if_pos hl, ho]; rfl)
        have KW := Lib.hid (KW1.out.on (below_alloc1 w2 (.cells #[.int .i64 s9.lo, .int .i64 s9.hi] 37)))
        clear ho hsp c0 c1 c2 c3 c4
        obtain ⟨q, hq⟩ : ∃ q, q = addS (spOf none) false s9 := ⟨_, rfl⟩
        have HQ := Lib.hid hq
        clear hq
        have HA := Lib.hid (fun W => add2_any (spOf none) s9 false W)
        rw [← HQ.out] at HA
        have x0 := KW.out.hO.cell 0 (v := .int .i64 (spOf none).lo) rfl
        have x1 := KW.out.hO.cell 1 (v := .int .i64 (spOf none).hi) rfl
        have x2 := KW.out.hO.lt
        go_wp2_with fail
        refine (HA.out _).mono ?_
        rintro e w8 ⟨rfl, hb8⟩
        have K8 := KW.out.on hb8
        have HK8 := Lib.hid K8
        have p0 := K8.hO.cell 0 (v := .int .i64 (spOf none).lo) rfl
        have p1 := K8.hO.cell 1 (v := .int .i64 (spOf none).hi) rfl
        have p2 := K8.hO.lt
        have p3 := K8.hO.frozen 0
        have p4 := K8.hO.frozen 1
        clear K8 hb8 x0 x1 x2
        go_wp2_with fail
        go_meet
        have EX : leakK t x 0 = some q := by rw [E.out, HQ.out]
        exact ⟨by rw [EX]; rfl, by rw [EX]; exact HK8.out.put q (some q) rfl⟩
    · have hd : decide (1 ≤ t.leaks) = false := by simpa using hl
      have E := Lib.hid (show leakK t x 0 = none by show (if _ then _ else _) = _; rw [if_neg hl])
      go_wp2_with fail
      go_meet
      exact ⟨by rw [E.out]; rfl, by rw [E.out]; exact KW0.out⟩
  case rest =>
    obtain ⟨rfl, hKW⟩ := hcut
    clear c0 c1 c2 c3 c4
    go_wp2_with fail
    go_loopw [7, 10] (fun v7 v10 wr => ∃ k : Nat, k ≤ t.n ∧ v10 = .int .i64 k ∧ v7 = .bool (leakK t x k).isSome ∧ KI t oa ca ob cb w (leakK t x k) wr ∧ (t.leaks < 2 → k = 0)) (fun _ i _ => t.n - (intOf i).toNat)
    case atStart => exact ⟨0, Nat.zero_le _, rfl, rfl, hKW, fun _ => rfl⟩
    case round =>
      obtain ⟨k, hk, rfl, rfl, hI, hk0⟩ := hrel
      have KW1 := Lib.hid hI
      obtain ⟨c0, c1, c2, c3, c4⟩ := TB.cells hI.hT
      have HK0 := Lib.hid hk0
      clear hI hk0 hKW
      by_cases hcon : k < t.n ∧ 2 ≤ t.leaks
      · obtain ⟨hlt, hl2⟩ := hcon
        have hd : decide (k < t.n) = true := by simpa using hlt
        have hd2 : decide (2 ≤ t.leaks) = true := by simpa using hl2
        by_cases hkx : k = x
        · have E := Lib.hid (show leakK t x (k + 1) = leakK t x k by show (if _ then _ else _) = _; rw [if_pos hkx])
          have he : ((k : Int) == (x : Int)) = true := by simp; omega
          clear hkx
          go_wp2_with fail
          go_roundw
          case rel => exact ⟨k + 1, by omega, by go_num, by rw [E.out], by rw [E.out]; exact KW1.out, fun h => by omega⟩
          case measure => simp [intOf]; omega
        · have he : ((k : Int) == (x : Int)) = false := by simp; omega
          obtain ⟨acc, hacc⟩ : ∃ a, a = leakK t x k := ⟨_, rfl⟩
          have EA := Lib.hid (show leakK t x (k + 1) = addO acc (twoR t x k) by rw [hacc]; show (if _ then _ else _) = _; rw [if_neg hkx])
          rw [← hacc] at KW1 ⊢
          clear hkx hacc
          go_wp2_with fail
          refine (two_any t HK.out oa ca ob cb x k hx (by omega) _ (HU.out.mono KW1.out.low) (HS.out.mono KW1.out.low)).mono ?_
          rintro e w2 ⟨hb2, sp, rfl, hsp⟩
          have KW2 := Lib.hid (KW1.out.on hb2)
          cases ho : twoR t x k with
          | none =>
            have E := Lib.hid (show leakK t x (k + 1) = acc by rw [EA.out, ho]; rfl)
            clear ho hsp
            go_wp2_with fail
            go_roundw
            case rel => exact ⟨k + 1, by omega, by go_num, by rw [E.out], by rw [E.out]; exact KW2.out.on (below_alloc1 _ _), fun h => by omega⟩
            case measure => simp [intOf]; omega
          | some s9 =>
            obtain rfl : s9 = sp := (hsp s9 ho).symm
            have E := Lib.hid (show leakK t x (k + 1) = some (addS (spOf acc) acc.isSome s9) by rw [EA.out, ho]; rfl)
            have KW := Lib.hid (KW2.out.on (below_alloc1 w2 (.cells #[.int .i64 s9.lo, .int .i64 s9.hi] 37)))
            clear ho hsp c0 c1 c2 c3 c4
            obtain ⟨q, hq⟩ : ∃ q, q = addS (spOf acc) acc.isSome s9 := ⟨_, rfl⟩
            have HQ := Lib.hid hq
            clear hq
            have HA := Lib.hid (fun W => add2_any (spOf acc) s9 acc.isSome W)
            rw [← HQ.out] at HA
            have x0 := KW.out.hO.cell 0 (v := .int .i64 (spOf acc).lo) rfl
            have x1 := KW.out.hO.cell 1 (v := .int .i64 (spOf acc).hi) rfl
            have x2 := KW.out.hO.lt
            go_wp2_with fail
            refine (HA.out _).mono ?_
            rintro e w8 ⟨rfl, hb8⟩
            have K8 := KW.out.on hb8
            have HK8 := Lib.hid K8
            have p0 := K8.hO.cell 0 (v := .int .i64 (spOf acc).lo) rfl
            have p1 := K8.hO.cell 1 (v := .int .i64 (spOf acc).hi) rfl
            have p2 := K8.hO.lt
            have p3 := K8.hO.frozen 0
            have p4 := K8.hO.frozen 1
            clear K8 hb8 x0 x1 x2
            go_wp2_with fail
            have EX := Lib.hid (show leakK t x (k + 1) = some q by rw [E.out, HQ.out])
            go_roundw
            case rel => exact ⟨k + 1, by omega, by go_num, by rw [EX.out]; rfl, by rw [EX.out]; exact HK8.out.put q (some q) rfl, fun h => by omega⟩
            case measure => simp [intOf]; omega
      · have E : leakO t x = leakK t x k := by
          unfold leakO
          by_cases h2 : 2 ≤ t.leaks
          · rw [if_pos h2, show t.n = k by omega]
          · rw [if_neg h2, HK0.out (by omega)]
        obtain ⟨o, ho⟩ : ∃ o, o = leakO t x := ⟨_, rfl⟩
        rw [← ho] at E
        rw [← E] at KW1 ⊢
        have EO := Lib.hid ho
        clear ho E
        have x0 := KW1.out.hO.cell 0 (v := .int .i64 (spOf o).lo) rfl
        have x1 := KW1.out.hO.cell 1 (v := .int .i64 (spOf o).hi) rfl
        have x2 := KW1.out.hO.lt
        have r0 := KW1.out.hR.cell 0 (v := .int .i64 0) rfl
        have r1 := KW1.out.hR.cell 1 (v := .int .i64 0) rfl
        have r2 := KW1.out.hR.lt
        have r3 := KW1.out.hR.frozen 0
        have r4 := KW1.out.hR.frozen 1
        have hbw := KW1.out.low
        have PQ := put2 r0 r1 (.int .i64 (spOf o).lo) (.int .i64 (spOf o).hi)
        by_cases hlt : k < t.n
        · have hd : decide (k < t.n) = true := by simpa using hlt
          have hd2 : decide (2 ≤ t.leaks) = false := by simp; omega
          go_wp2_with fail
          exact bodyPost_ret (v := .tuple #[(spOf o).val, .bool o.isSome]) (by simp [results, Tryd.results31, go_sem, PQ.1, PQ.2]) rfl ⟨by rw [EO.out], (hbw.setCell (by dsimp only; omega) _).setCell (by dsimp only; omega) _⟩
        · have hd : decide (k < t.n) = false := by simpa using hlt
          go_wp2_with fail
          exact bodyPost_ret (v := .tuple #[(spOf o).val, .bool o.isSome]) (by simp [results, Tryd.results31, go_sem, PQ.1, PQ.2]) rfl ⟨by rw [EO.out], (hbw.setCell (by dsimp only; omega) _).setCell (by dsimp only; omega) _⟩
end Go.Proofs.YtpognhnmkjpipaaDoor
