/- TravelOrder returns true. -/
import Derived.Test.YtldodmfmibeoiaaDoorO1
import Derived.Test.YtldodmfmibeoiaaDoorL3
namespace Go.Proofs.YtldodmfmibeoiaaDoor
open Go.RowKit
/-- what TravelOrder keeps at its beginning -/
structure Vt (r : Rnd) (w : World) (oa : Option Addr) (ca g g9 k : Nat) (W : World) : Prop where
  v : Vr r w oa ca g W
  k : Box g9 #[.int .u8 (k : Nat)] 5 W
theorem Vt.on {r : Rnd} {w A B : World} {oa : Option Addr} {ca g g9 k : Nat} (h : Vt r w oa ca g g9 k A) (hb : Below A.heap.size A B) : Vt r w oa ca g g9 k B := ⟨h.v.on hb, h.k.below hb⟩
theorem Vt.cells {r : Rnd} {w A : World} {oa : Option Addr} {ca g g9 k : Nat} (h : Vt r w oa ca g g9 k A) : (A.cell? ⟨g, 0, none⟩ = some (.int .i64 r.nb) ∧ A.cell? ⟨g, 1, none⟩ = some (.int .i64 r.nm) ∧ A.cell? ⟨g, 2, none⟩ = some (.int .i64 r.most) ∧ A.cell? ⟨g, 3, none⟩ = some (.slice oa r.n ca) ∧ g < A.heap.size) ∧ A.cell? ⟨g9, 0, none⟩ = some (.int .u8 (k : Nat)) ∧ g9 < A.heap.size :=
  ⟨h.v.cells, h.k.cell 0 rfl, h.k.lt⟩
theorem Vt.start {r : Rnd} {w : World} {oa : Option Addr} {ca : Nat} (k : Nat) (hR : TrpsAt w oa r.n r.t) (hT : TabAt 1 Lib.deBruijn64tab w) (h1 : 1 < w.heap.size) : Vt r w oa ca w.heap.size (w.heap.size + 1) k ((w.alloc (.cells #[.int .i64 r.nb, .int .i64 r.nm, .int .i64 r.most, .slice oa r.n ca] 24)).alloc (.cells #[.int .u8 (k : Nat)] 5)) := by
  have h := Vr.start (ca := ca) hR hT h1
  exact ⟨h.on (below_alloc1 _ _), Box.new _ _ _ (by simp)⟩
/-- and with the turned round -/
structure Vu (r : Rnd) (w : World) (oa : Option Addr) (ca g g9 k gX : Nat) (oS : Option Addr) (cS : Nat) (W : World) : Prop where
  t : Vt r w oa ca g g9 k W
  x : Box gX #[.int .i64 r.nb, .int .i64 r.nm, .int .i64 r.most, .slice oS r.n cS] 24 W
  tr : TrpsAt W oS r.n (r.turn k).t
theorem Vu.on {r : Rnd} {w A B : World} {oa oS : Option Addr} {ca g g9 k gX cS : Nat} (h : Vu r w oa ca g g9 k gX oS cS A) (hb : Below A.heap.size A B) : Vu r w oa ca g g9 k gX oS cS B := ⟨h.t.on hb, h.x.below hb, h.tr.mono hb⟩
theorem own_lt9 {w : World} {base e size n : Nat} {v : Value} {xs : List Value} (h : w.ownsRow base e size v n xs) : ∀ b, v.ownBlock = some b → b < w.heap.size := fun b hb => by
  rcases h.2 with ⟨rfl, _⟩ | ⟨g', c, cur, rfl, _, hg, _⟩
  · cases hb
  · simp only [Value.ownBlock, Option.some.injEq] at hb
    subst hb
    rcases Nat.lt_or_ge g' w.heap.size with h' | h'
    · exact h'
    · rw [Array.getElem?_eq_none h'] at hg; cases hg
set_option maxRecDepth 100000 in
set_option maxHeartbeats 40000000 in
theorem travelOrder_any (r : Rnd) (oa : Option Addr) (ca : Nat) (off bench meter : Int) (k : Nat) (w : World) (hR : TrpsAt w oa r.n r.t) (hT : TabAt 1 Lib.deBruijn64tab w) (h1 : 1 < w.heap.size) (hn63 : r.n ≤ 9223372036854775807) (hk : k < 256) :
    Calls Tryd.prog 10 #[r.val oa ca, .int .i64 off, .int .i64 bench, .int .i64 meter, .int .u8 (k : Nat)] w fun e w' => e = .returned (.bool true) ∧ Below w.heap.size w w' := by
  have I0 := Lib.hid (Vt.start (ca := ca) k hR hT h1)
  clear hR hT
  go_enter Tryd.func10, Tryd.ntmps10
  go_upto_region 1 with fail
  obtain ⟨g9, hG2⟩ : ∃ G, G = w.heap.size + 1 := ⟨_, rfl⟩
  rw [← hG2] at I0 ⊢
  obtain ⟨X2, hW⟩ : ∃ X, X = (w.alloc (.cells #[.int .i64 r.nb, .int .i64 r.nm, .int .i64 r.most, .slice oa r.n ca] 24)).alloc (.cells #[.int .u8 (k : Nat)] 5) := ⟨_, rfl⟩
  rw [← hW] at I0 ⊢
  obtain ⟨g, hG⟩ : ∃ G, G = w.heap.size := ⟨_, rfl⟩
  rw [← hG] at I0 ⊢
  replace I0 := Lib.hid (show Vt r w oa ca g g9 k X2 by rw [hG]; rw [hG] at I0; exact I0.out)
  clear hG hW hG2
  obtain ⟨⟨c0, c1, c2, c3, c4⟩, c5, c6⟩ := I0.out.cells
  by_cases h18 : 18 < r.n
  · have z : decide (18 < (r.n : Int)) = true := by simp; omega
    have z2 : decide ((r.n : Int) > 18) = true := by simp; omega
    have z3 : decide ((r.n : Int) ≤ 18) = false := by simp; omega
    go_wp2_with fail
    refine (convict_big r oa ca _ (by omega) hn63).mono ?_
    rintro e X3 ⟨rfl, hb⟩
    have I1 := Lib.hid (I0.out.on hb)
    clear I0 c0 c1 c2 c3 c4 c5 c6 hb
    obtain ⟨⟨c0, c1, c2, c3, c4⟩, c5, c6⟩ := I1.out.cells
    go_wp2_with fail
    refine (awake_any _ I1.out.v.tt I1.out.v.t1).mono ?_
    rintro e w9 ⟨rfl, hb9⟩
    have HF := Lib.hid (I1.out.on hb9).v.low
    go_wp2_with fail
    go_ret
    exact ⟨rfl, HF.out⟩
  have z : decide (18 < (r.n : Int)) = false := by simp; omega
  have z2 : decide ((r.n : Int) > 18) = false := by simp; omega
  have z3 : decide ((r.n : Int) ≤ 18) = true := by simp; omega
  have hn : r.n ≤ 1000000 := by omega
  go_wp2_with fail
  refine (round_any r oa ca _ hn I0.out.v.tr).mono ?_
  rintro e X3 ⟨rfl, hb⟩
  have I1 := Lib.hid (I0.out.on hb)
  clear I0 c0 c1 c2 c3 c4 c5 c6 hb
  obtain ⟨⟨c0, c1, c2, c3, c4⟩, c5, c6⟩ := I1.out.cells
  cases hv : r.valid
  case false =>
    have HV := Lib.hid hv
    have HCV := Lib.hid (show r.convict = (0, 1) by
      have e1 : r.err (-1) = 1 := if_pos hv
      unfold Rnd.convict
      rw [e1, if_pos (by decide)])
    clear hv
    go_wp2_with fail
    refine (convict_any r oa ca _ hn I1.out.v.tt I1.out.v.t1 I1.out.v.tr).mono ?_
    rintro e X4 ⟨rfl, hb⟩
    rw [HCV.out]
    have I2 := Lib.hid (I1.out.on hb)
    clear I1 c0 c1 c2 c3 c4 c5 c6 hb
    obtain ⟨⟨c0, c1, c2, c3, c4⟩, c5, c6⟩ := I2.out.cells
    go_wp2_with fail
    refine (round_any r oa ca _ hn I2.out.v.tr).mono ?_
    rintro e X5 ⟨rfl, hb⟩
    rw [HV.out]
    have I1 := Lib.hid (I2.out.on hb)
    clear I2 c0 c1 c2 c3 c4 c5 c6 hb
    go_wp2_with fail
    refine (awake_any _ I1.out.v.tt I1.out.v.t1).mono ?_
    rintro e w9 ⟨rfl, hb9⟩
    have HF := Lib.hid (I1.out.on hb9).v.low
    go_wp2_with fail
    go_ret
    exact ⟨rfl, HF.out⟩
  have HV := Lib.hid hv
  have hh := Rnd.valid_head hv
  have x1 := hh.1.1
  have x2 := hh.1.2
  have x3 := hh.2.1.1
  have x4 := hh.2.1.2
  have hn14 := hh.2.2.2
  clear hv hh
  by_cases o1 : off < -1
  · have y1 : decide (off < -1) = true := decide_eq_true o1
    go_wp2_with fail
    refine (convict_any r oa ca _ hn I1.out.v.tt I1.out.v.t1 I1.out.v.tr).mono ?_
    rintro e X4 ⟨rfl, hb⟩
    have I2 := Lib.hid (I1.out.on hb)
    clear I1 c0 c1 c2 c3 c4 c5 c6 hb
    obtain ⟨⟨c0, c1, c2, c3, c4⟩, c5, c6⟩ := I2.out.cells
    obtain ⟨v1, hv1⟩ : ∃ q, q = r.convict.1 := ⟨_, rfl⟩
    obtain ⟨v2, hv2⟩ : ∃ q, q = r.convict.2 := ⟨_, rfl⟩
    rw [← hv1, ← hv2]
    clear hv1 hv2
    go_wp2_with fail
    refine (round_any r oa ca _ hn I2.out.v.tr).mono ?_
    rintro e X5 ⟨rfl, hb⟩
    rw [HV.out]
    have I1 := Lib.hid (I2.out.on hb)
    clear I2 c0 c1 c2 c3 c4 c5 c6 hb
    go_wp2_with fail
    refine (awake_any _ I1.out.v.tt I1.out.v.t1).mono ?_
    rintro e w9 ⟨rfl, hb9⟩
    have HF := Lib.hid (I1.out.on hb9).v.low
    go_wp2_with fail
    go_ret
    exact ⟨rfl, HF.out⟩
  have y1 : decide (off < -1) = false := decide_eq_false o1
  by_cases o2 : r.nb ≤ off
  · have y2 : decide (off ≥ r.nb) = true := decide_eq_true o2
    have y3 : decide (r.nb ≤ off) = true := decide_eq_true o2
    go_wp2_with fail
    refine (convict_any r oa ca _ hn I1.out.v.tt I1.out.v.t1 I1.out.v.tr).mono ?_
    rintro e X4 ⟨rfl, hb⟩
    have I2 := Lib.hid (I1.out.on hb)
    clear I1 c0 c1 c2 c3 c4 c5 c6 hb
    obtain ⟨⟨c0, c1, c2, c3, c4⟩, c5, c6⟩ := I2.out.cells
    obtain ⟨v1, hv1⟩ : ∃ q, q = r.convict.1 := ⟨_, rfl⟩
    obtain ⟨v2, hv2⟩ : ∃ q, q = r.convict.2 := ⟨_, rfl⟩
    rw [← hv1, ← hv2]
    clear hv1 hv2
    go_wp2_with fail
    refine (round_any r oa ca _ hn I2.out.v.tr).mono ?_
    rintro e X5 ⟨rfl, hb⟩
    rw [HV.out]
    have I1 := Lib.hid (I2.out.on hb)
    clear I2 c0 c1 c2 c3 c4 c5 c6 hb
    go_wp2_with fail
    refine (awake_any _ I1.out.v.tt I1.out.v.t1).mono ?_
    rintro e w9 ⟨rfl, hb9⟩
    have HF := Lib.hid (I1.out.on hb9).v.low
    go_wp2_with fail
    go_ret
    exact ⟨rfl, HF.out⟩
  have y2 : decide (off ≥ r.nb) = false := decide_eq_false o2
  have y3 : decide (r.nb ≤ off) = false := decide_eq_false o2
  by_cases o3 : bench < 0
  · have y4 : decide (bench < 0) = true := decide_eq_true o3
    go_wp2_with fail
    refine (convict_any r oa ca _ hn I1.out.v.tt I1.out.v.t1 I1.out.v.tr).mono ?_
    rintro e X4 ⟨rfl, hb⟩
    have I2 := Lib.hid (I1.out.on hb)
    clear I1 c0 c1 c2 c3 c4 c5 c6 hb
    obtain ⟨⟨c0, c1, c2, c3, c4⟩, c5, c6⟩ := I2.out.cells
    obtain ⟨v1, hv1⟩ : ∃ q, q = r.convict.1 := ⟨_, rfl⟩
    obtain ⟨v2, hv2⟩ : ∃ q, q = r.convict.2 := ⟨_, rfl⟩
    rw [← hv1, ← hv2]
    clear hv1 hv2
    go_wp2_with fail
    refine (round_any r oa ca _ hn I2.out.v.tr).mono ?_
    rintro e X5 ⟨rfl, hb⟩
    rw [HV.out]
    have I1 := Lib.hid (I2.out.on hb)
    clear I2 c0 c1 c2 c3 c4 c5 c6 hb
    go_wp2_with fail
    refine (awake_any _ I1.out.v.tt I1.out.v.t1).mono ?_
    rintro e w9 ⟨rfl, hb9⟩
    have HF := Lib.hid (I1.out.on hb9).v.low
    go_wp2_with fail
    go_ret
    exact ⟨rfl, HF.out⟩
  have y4 : decide (bench < 0) = false := decide_eq_false o3
  by_cases o4 : r.nb ≤ bench
  · have y5 : decide (bench ≥ r.nb) = true := decide_eq_true o4
    have y6 : decide (r.nb ≤ bench) = true := decide_eq_true o4
    go_wp2_with fail
    refine (convict_any r oa ca _ hn I1.out.v.tt I1.out.v.t1 I1.out.v.tr).mono ?_
    rintro e X4 ⟨rfl, hb⟩
    have I2 := Lib.hid (I1.out.on hb)
    clear I1 c0 c1 c2 c3 c4 c5 c6 hb
    obtain ⟨⟨c0, c1, c2, c3, c4⟩, c5, c6⟩ := I2.out.cells
    obtain ⟨v1, hv1⟩ : ∃ q, q = r.convict.1 := ⟨_, rfl⟩
    obtain ⟨v2, hv2⟩ : ∃ q, q = r.convict.2 := ⟨_, rfl⟩
    rw [← hv1, ← hv2]
    clear hv1 hv2
    go_wp2_with fail
    refine (round_any r oa ca _ hn I2.out.v.tr).mono ?_
    rintro e X5 ⟨rfl, hb⟩
    rw [HV.out]
    have I1 := Lib.hid (I2.out.on hb)
    clear I2 c0 c1 c2 c3 c4 c5 c6 hb
    go_wp2_with fail
    refine (awake_any _ I1.out.v.tt I1.out.v.t1).mono ?_
    rintro e w9 ⟨rfl, hb9⟩
    have HF := Lib.hid (I1.out.on hb9).v.low
    go_wp2_with fail
    go_ret
    exact ⟨rfl, HF.out⟩
  have y5 : decide (bench ≥ r.nb) = false := decide_eq_false o4
  have y6 : decide (r.nb ≤ bench) = false := decide_eq_false o4
  by_cases o5 : meter < 0
  · have y7 : decide (meter < 0) = true := decide_eq_true o5
    go_wp2_with fail
    refine (convict_any r oa ca _ hn I1.out.v.tt I1.out.v.t1 I1.out.v.tr).mono ?_
    rintro e X4 ⟨rfl, hb⟩
    have I2 := Lib.hid (I1.out.on hb)
    clear I1 c0 c1 c2 c3 c4 c5 c6 hb
    obtain ⟨⟨c0, c1, c2, c3, c4⟩, c5, c6⟩ := I2.out.cells
    obtain ⟨v1, hv1⟩ : ∃ q, q = r.convict.1 := ⟨_, rfl⟩
    obtain ⟨v2, hv2⟩ : ∃ q, q = r.convict.2 := ⟨_, rfl⟩
    rw [← hv1, ← hv2]
    clear hv1 hv2
    go_wp2_with fail
    refine (round_any r oa ca _ hn I2.out.v.tr).mono ?_
    rintro e X5 ⟨rfl, hb⟩
    rw [HV.out]
    have I1 := Lib.hid (I2.out.on hb)
    clear I2 c0 c1 c2 c3 c4 c5 c6 hb
    go_wp2_with fail
    refine (awake_any _ I1.out.v.tt I1.out.v.t1).mono ?_
    rintro e w9 ⟨rfl, hb9⟩
    have HF := Lib.hid (I1.out.on hb9).v.low
    go_wp2_with fail
    go_ret
    exact ⟨rfl, HF.out⟩
  have y7 : decide (meter < 0) = false := decide_eq_false o5
  by_cases o6 : r.nm ≤ meter
  · have y8 : decide (meter ≥ r.nm) = true := decide_eq_true o6
    have y9 : decide (r.nm ≤ meter) = true := decide_eq_true o6
    go_wp2_with fail
    refine (convict_any r oa ca _ hn I1.out.v.tt I1.out.v.t1 I1.out.v.tr).mono ?_
    rintro e X4 ⟨rfl, hb⟩
    have I2 := Lib.hid (I1.out.on hb)
    clear I1 c0 c1 c2 c3 c4 c5 c6 hb
    obtain ⟨⟨c0, c1, c2, c3, c4⟩, c5, c6⟩ := I2.out.cells
    obtain ⟨v1, hv1⟩ : ∃ q, q = r.convict.1 := ⟨_, rfl⟩
    obtain ⟨v2, hv2⟩ : ∃ q, q = r.convict.2 := ⟨_, rfl⟩
    rw [← hv1, ← hv2]
    clear hv1 hv2
    go_wp2_with fail
    refine (round_any r oa ca _ hn I2.out.v.tr).mono ?_
    rintro e X5 ⟨rfl, hb⟩
    rw [HV.out]
    have I1 := Lib.hid (I2.out.on hb)
    clear I2 c0 c1 c2 c3 c4 c5 c6 hb
    go_wp2_with fail
    refine (awake_any _ I1.out.v.tt I1.out.v.t1).mono ?_
    rintro e w9 ⟨rfl, hb9⟩
    have HF := Lib.hid (I1.out.on hb9).v.low
    go_wp2_with fail
    go_ret
    exact ⟨rfl, HF.out⟩
  have y8 : decide (meter ≥ r.nm) = false := decide_eq_false o6
  have y9 : decide (r.nm ≤ meter) = false := decide_eq_false o6
  clear c0 c1 c2 c3 c4 c5 c6 z z2 z3
  obtain ⟨⟨c0, c1, c2, c3, c4⟩, c5, c6⟩ := I1.out.cells
  go_upto_region 8 with fail
  have hb0 := below_alloc1 X3 (.cells #[.int .i64 r.nb, .int .i64 r.nm, .int .i64 r.most, .slice none 0 0] 24)
  have hB := Box.new (g := X3.heap.size) #[.int .i64 r.nb, .int .i64 r.nm, .int .i64 r.most, .slice none 0 0] 24 X3 rfl
  obtain ⟨wo, hW⟩ : ∃ X, X = X3.alloc (.cells #[.int .i64 r.nb, .int .i64 r.nm, .int .i64 r.most, .slice none 0 0] 24) := ⟨_, rfl⟩
  rw [← hW] at hb0 hB ⊢
  clear hW
  obtain ⟨gX, hgr⟩ : ∃ G, G = X3.heap.size := ⟨_, rfl⟩
  rw [← hgr] at hB ⊢
  have HGX := Lib.hid (show X3.heap.size ≤ gX by omega)
  clear hgr c0 c1 c2 c3 c4 c5 c6 y1 y2 y3 y4 y5 y6 y7 y8 y9
  have HL0 := Lib.hid hb0
  have HAR := Lib.hid (show AR gX #[.int .i64 r.nb, .int .i64 r.nm, .int .i64 r.most, .slice none 0 0] wo wo from ⟨Same.refl _ _, hB, hB.lt⟩)
  clear hB hb0
  obtain ⟨iR, hiR, hzR0, hzR1, hzR2⟩ := info_parts (P := Tryd.prog) (e := 48) (z := .agg #[.int .i64 0, .int .i64 0, .int .i64 0, .int .i64 0]) (size := 4) (bytes := 32) (by kernel_rfl)
  have HTB := Lib.hid (fun (z : Nat) (W : World) (hz : z ≤ 1000) (h : Vt r w oa ca g g9 k W) => turnB_any z k r oa ca g9 g W HV.out hz hk h.k h.v.b)
  have HTM := Lib.hid (fun (z : Nat) (W : World) (hz : z ≤ 1000) (h : Vt r w oa ca g g9 k W) => turnM_any z k r oa ca g9 g W HV.out hz hk h.k h.v.b)
  have HIX := Lib.hid (fun (cs : Array Value) (A : World) (h : AR gX cs wo A) => I1.out.on (h.low HL0.out HGX.out))
  go_wp2_with fail
  go_loopw [16] (fun v16 wr => ∃ (i : Nat) (oS : Option Addr) (cS : Nat), i ≤ r.n ∧ v16 = .int .i64 i ∧ Hid (wr.ownsRow wo.heap.size 48 4 (.slice oS i cS) i (trpNews i (r.turn k).t)) ∧ Hid (AR gX #[.int .i64 r.nb, .int .i64 r.nm, .int .i64 r.most, .slice oS i cS] wo wr)) (fun i _ => r.n - (intOf i).toNat)
  case atStart => exact ⟨0, none, 0, by omega, rfl, Lib.hid owns_none, HAR⟩
  case round =>
    clear HAR
    obtain ⟨i, oS, cS, hi, rfl, HOW, HAR⟩ := hrel
    have IX := Lib.hid (HIX.out _ _ HAR.out)
    have d3 := IX.out.v.b.cell 3 (v := .slice oa r.n ca) rfl
    have d4 := IX.out.v.b.lt
    by_cases hlt : i < r.n
    · have hd1 : decide ((i : Int) < (r.n : Int)) = true := decide_eq_true (by omega)
      as_aux_lemma =>
        have hjn := rot_lt (n := r.n) (by omega) k i
        have hmk := rot_tmod r.n k i
        have HYT := Lib.hid (show (r.turn k).t i = (r.t (rot r.n k i)).turn r.nb.toNat r.nm.toNat k from rfl)
        obtain ⟨j, hj⟩ : ∃ j, j = rot r.n k i := ⟨_, rfl⟩
        rw [← hj] at hjn hmk HYT
        clear hj
        have hto := Rnd.valid_trip HV.out hjn
        obtain ⟨tb, tq, e8, htl, t0, t1, t2, t3⟩ := I1.out.v.tr j hjn
        subst e8
        obtain ⟨S, hS⟩ : ∃ S, S = r.t j := ⟨_, rfl⟩
        rw [← hS] at t0 t1 t2 t3 HYT hto
        clear hS
        obtain ⟨Sb, Sm, Sl, Sh⟩ := S
        simp only at t0 t1 t2 t3 hto
        obtain ⟨b, rfl⟩ : ∃ b : Nat, Sb = b := ⟨Sb.toNat, by omega⟩
        obtain ⟨m, rfl⟩ : ∃ b : Nat, Sm = b := ⟨Sm.toNat, by omega⟩
        have HN := Lib.hid (show trpNews i (r.turn k).t ++ [.int .i64 (rot r.nb.toNat k b : Nat), .int .i64 (rot r.nm.toNat (k / 3) m : Nat), .int .i64 Sl, .int .i64 Sh] = trpNews (i + 1) (r.turn k).t by
          rw [trpNews_succ, HYT.out]; rfl)
        have hb6 : b ≤ 1000 := by omega
        have hm6 : m ≤ 1000 := by omega
        have HCL := Lib.hid (And.intro htl (And.intro t0 (And.intro t1 (And.intro t2 t3))))
        clear htl t0 t1 t2 t3 HYT hto
        have x5 : (0 : Int) ≤ (j : Int) := by omega
        have x6 : (j : Int) < (r.n : Int) := by omega
        have x7 : ((r.n : Int) == 0) = false := by simp; omega
        have x8 : (r.n : Int) ≠ 0 := by omega
        have hi14 : i ≤ 14 := by omega
        go_upto_region 11 with fail
        have hCC : ∀ A B : World, AR gX #[.int .i64 r.nb, .int .i64 r.nm, .int .i64 r.most, .slice oS i cS] wo A → Below A.heap.size A B → AR gX #[.int .i64 r.nb, .int .i64 r.nm, .int .i64 r.most, .slice oS i cS] wo B := fun A B h1 h2 => h1.on h2
        have hC0 := hCC _ _ HAR.out (Below.refl wr.heap.size wr).drew
        have hown := owns_below HOW.out (Below.refl wr.heap.size wr).drew
        have HLW := Lib.hid (fun (A : World) (h : AR gX #[.int .i64 r.nb, .int .i64 r.nm, .int .i64 r.most, .slice oS i cS] wo A) => h.low HL0.out HGX.out)
        refine wp_region_garb (fun A => AR gX #[.int .i64 r.nb, .int .i64 r.nm, .int .i64 r.most, .slice oS i cS] wo A) (by kernel_rfl) ?_
        (refine wpAnyG_take (i := 0) hCC hC0 rfl (by kernel_rfl) (by kernel_rfl) (by kernel_rfl) (fun _ _ _ _ h => h) (by rfl) ?_; apply Exists.intro; refine ⟨fun w1 h1 K hK => ?_, ?_⟩; · (have q4 : ∀ V : Aft w1, g < V.val.heap.size := fun V => (HIX.out _ _ (hCC _ _ h1 V.below)).v.b.lt; go_big_quiet_op; first | exact hK | fail))
        (refine wpAnyG_take (i := 1) hCC hC0 rfl (by kernel_rfl) (by kernel_rfl) (by kernel_rfl) (fun _ _ _ _ h => h) (by rfl) ?_; apply Exists.intro; refine ⟨fun w1 h1 K hK => ?_, ?_⟩; · (have q4 : ∀ V : Aft w1, V.val.cell? ⟨g, 3, none⟩ = some (.slice (some ⟨tb, tq, none⟩) r.n ca) := fun V => (HIX.out _ _ (hCC _ _ h1 V.below)).v.b.cell 3 rfl; go_big_quiet_op; first | exact hK | fail))
        (refine wpAnyG_take (i := 2) hCC hC0 rfl (by kernel_rfl) (by kernel_rfl) (by kernel_rfl) (fun _ _ _ _ h => h) (by rfl) ?_; apply Exists.intro; refine ⟨fun w1 h1 K hK => ?_, ?_⟩; · ( go_big_quiet_op; first | exact hK | fail))
        (refine wpAnyG_take (i := 3) hCC hC0 rfl (by kernel_rfl) (by kernel_rfl) (by kernel_rfl) (fun _ _ _ _ h => h) (by rfl) ?_; apply Exists.intro; refine ⟨fun w1 h1 K hK => ?_, ?_⟩; · (have q4 : ∀ V : Aft w1, V.val.cell? ⟨g9, 0, none⟩ = some (.int .u8 (k : Nat)) := fun V => (HIX.out _ _ (hCC _ _ h1 V.below)).k.cell 0 rfl; have q5 : ∀ V : Aft w1, g9 < V.val.heap.size := fun V => (HIX.out _ _ (hCC _ _ h1 V.below)).k.lt; go_big_quiet_op; first | exact hK | fail))
        (refine wpAnyG_take (i := 4) hCC hC0 rfl (by kernel_rfl) (by kernel_rfl) (by kernel_rfl) (fun _ _ _ _ h => h) (by rfl) ?_; apply Exists.intro; refine ⟨fun w1 h1 K hK => ?_, ?_⟩; · ( go_big_quiet_op; first | exact hK | fail))
        (refine wpAnyG_take (i := 5) hCC hC0 rfl (by kernel_rfl) (by kernel_rfl) (by kernel_rfl) (fun _ _ _ _ h => h) (by rfl) ?_; apply Exists.intro; refine ⟨fun w1 h1 K hK => ?_, ?_⟩; · ( go_big_quiet_op; first | exact hK | fail))
        (refine wpAnyG_take (i := 6) hCC hC0 rfl (by kernel_rfl) (by kernel_rfl) (by kernel_rfl) (fun _ _ _ _ h => h) (by rfl) ?_; apply Exists.intro; refine ⟨fun w1 h1 K hK => ?_, ?_⟩; · (have q4 : ∀ V : Aft w1, g < V.val.heap.size := fun V => (HIX.out _ _ (hCC _ _ h1 V.below)).v.b.lt; go_big_quiet_op; first | exact hK | fail))
        (refine wpAnyG_take (i := 7) hCC hC0 rfl (by kernel_rfl) (by kernel_rfl) (by kernel_rfl) (fun _ _ _ _ h => h) (by rfl) ?_; apply Exists.intro; refine ⟨fun w1 h1 K hK => ?_, ?_⟩; · (have q4 : ∀ V : Aft w1, V.val.cell? ⟨g, 3, none⟩ = some (.slice (some ⟨tb, tq, none⟩) r.n ca) := fun V => (HIX.out _ _ (hCC _ _ h1 V.below)).v.b.cell 3 rfl; go_big_quiet_op; first | exact hK | fail))
        (refine wpAnyG_take (i := 8) hCC hC0 rfl (by kernel_rfl) (by kernel_rfl) (by kernel_rfl) (fun _ _ _ _ h => h) (by rfl) ?_; apply Exists.intro; refine ⟨fun w1 h1 K hK => ?_, ?_⟩; · ( go_big_quiet_op; first | exact hK | fail))
        (refine wpAnyG_take (i := 9) hCC hC0 rfl (by kernel_rfl) (by kernel_rfl) (by kernel_rfl) (fun _ _ _ _ h => h) (by rfl) ?_; apply Exists.intro; refine ⟨fun w1 h1 K hK => ?_, ?_⟩; · ( go_big_quiet_op; first | exact hK | fail))
        (refine wpAnyG_take (i := 10) hCC hC0 rfl (by kernel_rfl) (by kernel_rfl) (by kernel_rfl) (fun _ _ _ _ h => h) (by rfl) ?_; apply Exists.intro; refine ⟨fun w1 h1 K hK => ?_, ?_⟩; · (have q4 : ∀ V : Aft w1, tb < V.val.heap.size := fun V => Nat.lt_of_lt_of_le HCL.out.1 (HLW.out _ (hCC _ _ h1 V.below)).size; go_big_quiet_op; first | exact hK | fail))
        (refine wpAnyG_take (i := 11) hCC hC0 rfl (by kernel_rfl) (by kernel_rfl) (by kernel_rfl) (fun _ _ _ _ h => h) (by rfl) ?_; apply Exists.intro; refine ⟨fun w1 h1 K hK => ?_, ?_⟩; · (have q0 : ∀ V : Aft w1, V.val.cell? ⟨tb, tq + j * 4, none⟩ = some (.int .i64 (b : Nat)) := fun V => ((HLW.out _ (hCC _ _ h1 V.below)).cell (p := ⟨tb, tq + j * 4, none⟩) HCL.out.1).trans HCL.out.2.1; have q1 : ∀ V : Aft w1, V.val.cell? ⟨tb, tq + j * 4 + 1, none⟩ = some (.int .i64 (m : Nat)) := fun V => ((HLW.out _ (hCC _ _ h1 V.below)).cell (p := ⟨tb, tq + j * 4 + 1, none⟩) HCL.out.1).trans HCL.out.2.2.1; have q2 : ∀ V : Aft w1, V.val.cell? ⟨tb, tq + j * 4 + 1 + 1, none⟩ = some (.int .i64 Sl) := fun V => ((HLW.out _ (hCC _ _ h1 V.below)).cell (p := ⟨tb, tq + j * 4 + 1 + 1, none⟩) HCL.out.1).trans HCL.out.2.2.2.1; have q3 : ∀ V : Aft w1, V.val.cell? ⟨tb, tq + j * 4 + 1 + 1 + 1, none⟩ = some (.int .i64 Sh) := fun V => ((HLW.out _ (hCC _ _ h1 V.below)).cell (p := ⟨tb, tq + j * 4 + 1 + 1 + 1, none⟩) HCL.out.1).trans HCL.out.2.2.2.2; have q4 : ∀ V : Aft w1, tb < V.val.heap.size := fun V => Nat.lt_of_lt_of_le HCL.out.1 (HLW.out _ (hCC _ _ h1 V.below)).size; go_big_quiet_op; first | exact hK | fail))
        (refine wpAnyG_one (i := 12) (by kernel_rfl) rfl (by rfl) (fun wa hwa K hK => ?_))
        go_simp
        have hTa := (hC0.on hwa).on (below_alloc1 wa (.cells #[.int .i64 0, .int .i64 0, .int .i64 0, .int .i64 0] 48))
        have hOa := owns_below (owns_below hown hwa) (below_alloc1 wa (.cells #[.int .i64 0, .int .i64 0, .int .i64 0, .int .i64 0] 48))
        have hPO : ∀ b9, (Value.slice oS i cS).ownBlock = some b9 → b9 ≠ wa.heap.size := fun b9 e9 => by have := own_lt9 (owns_below hown hwa) b9 e9; omega
        have zT := Box.new (g := wa.heap.size) #[.int .i64 0, .int .i64 0, .int .i64 0, .int .i64 0] 48 wa rfl
        have hgT : wo.heap.size ≤ wa.heap.size := Nat.le_trans hC0.same.size hwa.size
        refine hK _ _ hTa ?_
        clear hK K hC0 hown hwa
        obtain ⟨gT, hG⟩ : ∃ G, G = wa.heap.size := ⟨_, rfl⟩
        obtain ⟨wA, hWA⟩ : ∃ X, X = wa.alloc (.cells #[.int .i64 0, .int .i64 0, .int .i64 0, .int .i64 0] 48) := ⟨_, rfl⟩
        rw [← hWA] at zT hTa hOa ⊢
        rw [← hG] at zT hPO hgT ⊢
        clear hG hWA
        have nTX : gT ≠ gX := by have := hTa.lt; omega
        (refine wpAnyG_one (i := 13) (by kernel_rfl) rfl (by rfl) (fun wb hwb K hK => ?_))
        have hTb := hTa.on hwb
        have hOb := owns_below hOa hwb
        refine wp_store_box (zT.below hwb) rfl rfl rfl rfl (by kernel_rfl) (by simp [Value.oneCell']) (fun wc s6 ho => ?_); dsimp only [Act.put]
        have hTc : AR gX #[.int .i64 r.nb, .int .i64 r.nm, .int .i64 r.most, .slice oS i cS] wo wc := ⟨hTb.same.trans ⟨ho.os, ho.tape, ho.output, Nat.le_of_eq ho.size.symm, fun b9 _ hp => ho.block b9 (by omega)⟩, ho.box hTb.box (Ne.symm nTX), hTb.lt⟩
        have hOc := owns_but hOb ho.but hPO
        refine hK _ _ hTc ?_
        clear hK K
        refine wpAnyG_done (by kernel_rfl) (fun wz hwz => ?_) _
        have HAR2 := Lib.hid (hTc.on hwz)
        have HOW2 := Lib.hid (owns_below hOc hwz)
        have ZT := Lib.hid (s6.below hwz)
        clear hTa hOa zT hTb hOb hwb s6 ho hTc hOc hwz HAR HOW IX d3 d4 hCC HLW HCL x5 x6 x7 x8 hmk hjn
        go_upto_region 12 with fail
        have hP0 : ∀ A B : World, (AR gX #[.int .i64 r.nb, .int .i64 r.nm, .int .i64 r.most, .slice oS i cS] wo A ∧ Box gT #[.int .i64 (b : Nat), .int .i64 (m : Nat), .int .i64 Sl, .int .i64 Sh] 48 A) → Below A.heap.size A B → (AR gX #[.int .i64 r.nb, .int .i64 r.nm, .int .i64 r.most, .slice oS i cS] wo B ∧ Box gT #[.int .i64 (b : Nat), .int .i64 (m : Nat), .int .i64 Sl, .int .i64 Sh] 48 B) := fun A B h1 h2 => ⟨h1.1.on h2, h1.2.below h2⟩
        have hP1 : ∀ A B : World, (∃ cs, AR gX cs wo A) → Below A.heap.size A B → (∃ cs, AR gX cs wo B) := fun _ _ h1 h2 => h1.imp fun _ h => h.on h2
        have hC0 := hP0 _ _ ⟨HAR2.out, ZT.out⟩ (Below.refl wz.heap.size wz).drew
        have hown := owns_below HOW2.out (Below.refl wz.heap.size wz).drew
        refine wp_region_phase 16 (fun A => AR gX #[.int .i64 r.nb, .int .i64 r.nm, .int .i64 r.most, .slice oS i cS] wo A ∧ Box gT #[.int .i64 (b : Nat), .int .i64 (m : Nat), .int .i64 Sl, .int .i64 Sh] 48 A) (fun A => ∃ cs, AR gX cs wo A) (by kernel_rfl) ?_
        (refine wpAnyP_take0 (i := 0) hP0 hP1 hC0 (by decide) (by rfl) rfl (by kernel_rfl) rfl (by kernel_rfl) (by kernel_rfl) (by kernel_rfl) (fun _ _ _ _ h => h) (by rfl) ?_; apply Exists.intro; refine ⟨fun w1 h1 K hK => ?_, ?_⟩; · (have q4 : ∀ V : Aft w1, gX < V.val.heap.size := fun V => (hP0 _ _ h1 V.below).1.box.lt; go_big_quiet_op; first | exact hK | fail))
        (refine wpAnyP_take0 (i := 1) hP0 hP1 hC0 (by decide) (by rfl) rfl (by kernel_rfl) rfl (by kernel_rfl) (by kernel_rfl) (by kernel_rfl) (fun _ _ _ _ h => h) (by rfl) ?_; apply Exists.intro; refine ⟨fun w1 h1 K hK => ?_, ?_⟩; · (have q4 : ∀ V : Aft w1, V.val.cell? ⟨gX, 3, none⟩ = some (.slice oS i cS) := fun V => (hP0 _ _ h1 V.below).1.box.cell 3 rfl; go_big_quiet_op; first | exact hK | fail))
        (refine wpAnyP_take0 (i := 2) hP0 hP1 hC0 (by decide) (by rfl) rfl (by kernel_rfl) rfl (by kernel_rfl) (by kernel_rfl) (by kernel_rfl) (fun _ _ _ _ h => h) (by rfl) ?_; apply Exists.intro; refine ⟨fun w1 h1 K hK => ?_, ?_⟩; · ( go_big_quiet_op; first | exact hK | fail))
        (refine wpAnyP_take0 (i := 3) hP0 hP1 hC0 (by decide) (by rfl) rfl (by kernel_rfl) rfl (by kernel_rfl) (by kernel_rfl) (by kernel_rfl) (fun _ _ _ _ h => h) (by rfl) ?_; apply Exists.intro; refine ⟨fun w1 h1 K hK => ?_, ?_⟩; · (have q4 : ∀ V : Aft w1, gT < V.val.heap.size := fun V => (hP0 _ _ h1 V.below).2.lt; go_big_quiet_op; first | exact hK | fail))
        (refine wpAnyP_take0 (i := 4) hP0 hP1 hC0 (by decide) (by rfl) rfl (by kernel_rfl) rfl (by kernel_rfl) (by kernel_rfl) (by kernel_rfl) (fun _ _ _ _ h => h) (by rfl) ?_; apply Exists.intro; refine ⟨fun w1 h1 K hK => ?_, ?_⟩; · (have q4 : ∀ V : Aft w1, V.val.cell? ⟨gT, 0, none⟩ = some (.int .i64 (b : Nat)) := fun V => (hP0 _ _ h1 V.below).2.cell 0 rfl; go_big_quiet_op; first | exact hK | fail))
        (refine wpAnyP_take0 (i := 5) hP0 hP1 hC0 (by decide) (by rfl) rfl (by kernel_rfl) rfl (by kernel_rfl) (by kernel_rfl) (by kernel_rfl) (fun _ _ _ _ h => h) (by rfl) ?_; apply Exists.intro; refine ⟨fun w1 h1 K hK => ?_, ?_⟩; · ( go_big_quiet_op; first | exact hK | exact ⟨_, fun W => aft_call (HTB.out b _ hb6 (HIX.out _ _ (hP0 _ _ h1 W.below).1)), hK⟩))
        (refine wpAnyP_take0 (i := 6) hP0 hP1 hC0 (by decide) (by rfl) rfl (by kernel_rfl) rfl (by kernel_rfl) (by kernel_rfl) (by kernel_rfl) (fun _ _ _ _ h => h) (by rfl) ?_; apply Exists.intro; refine ⟨fun w1 h1 K hK => ?_, ?_⟩; · ( go_big_quiet_op; first | exact hK | fail))
        (refine wpAnyP_take0 (i := 7) hP0 hP1 hC0 (by decide) (by rfl) rfl (by kernel_rfl) rfl (by kernel_rfl) (by kernel_rfl) (by kernel_rfl) (fun _ _ _ _ h => h) (by rfl) ?_; apply Exists.intro; refine ⟨fun w1 h1 K hK => ?_, ?_⟩; · (have q4 : ∀ V : Aft w1, gT < V.val.heap.size := fun V => (hP0 _ _ h1 V.below).2.lt; go_big_quiet_op; first | exact hK | fail))
        (refine wpAnyP_take0 (i := 8) hP0 hP1 hC0 (by decide) (by rfl) rfl (by kernel_rfl) rfl (by kernel_rfl) (by kernel_rfl) (by kernel_rfl) (fun _ _ _ _ h => h) (by rfl) ?_; apply Exists.intro; refine ⟨fun w1 h1 K hK => ?_, ?_⟩; · (have q4 : ∀ V : Aft w1, V.val.cell? ⟨gT, 1, none⟩ = some (.int .i64 (m : Nat)) := fun V => (hP0 _ _ h1 V.below).2.cell 1 rfl; go_big_quiet_op; first | exact hK | fail))
        (refine wpAnyP_take0 (i := 9) hP0 hP1 hC0 (by decide) (by rfl) rfl (by kernel_rfl) rfl (by kernel_rfl) (by kernel_rfl) (by kernel_rfl) (fun _ _ _ _ h => h) (by rfl) ?_; apply Exists.intro; refine ⟨fun w1 h1 K hK => ?_, ?_⟩; · ( go_big_quiet_op; first | exact hK | exact ⟨_, fun W => aft_call (HTM.out m _ hm6 (HIX.out _ _ (hP0 _ _ h1 W.below).1)), hK⟩))
        (refine wpAnyP_take0 (i := 10) hP0 hP1 hC0 (by decide) (by rfl) rfl (by kernel_rfl) rfl (by kernel_rfl) (by kernel_rfl) (by kernel_rfl) (fun _ _ _ _ h => h) (by rfl) ?_; apply Exists.intro; refine ⟨fun w1 h1 K hK => ?_, ?_⟩; · (have q4 : ∀ V : Aft w1, gT < V.val.heap.size := fun V => (hP0 _ _ h1 V.below).2.lt; go_big_quiet_op; first | exact hK | fail))
        (refine wpAnyP_take0 (i := 11) hP0 hP1 hC0 (by decide) (by rfl) rfl (by kernel_rfl) rfl (by kernel_rfl) (by kernel_rfl) (by kernel_rfl) (fun _ _ _ _ h => h) (by rfl) ?_; apply Exists.intro; refine ⟨fun w1 h1 K hK => ?_, ?_⟩; · (have q4 : ∀ V : Aft w1, gT < V.val.heap.size := fun V => (hP0 _ _ h1 V.below).2.lt; have q5 : ∀ V : Aft w1, V.val.cell? ⟨gT, 2, none⟩ = some (.int .i64 Sl) := fun V => (hP0 _ _ h1 V.below).2.cell 2 rfl; have q6 : ∀ V : Aft w1, V.val.cell? ⟨gT, 2 + 1, none⟩ = some (.int .i64 Sh) := fun V => (hP0 _ _ h1 V.below).2.cell 3 rfl; have q7 : ∀ V : Aft w1, V.val.cell? ⟨gT, 3, none⟩ = some (.int .i64 Sh) := fun V => (hP0 _ _ h1 V.below).2.cell 3 rfl; go_big_quiet_op; first | exact hK | fail))
        (refine wpAnyP_take0 (i := 12) hP0 hP1 hC0 (by decide) (by rfl) rfl (by kernel_rfl) rfl (by kernel_rfl) (by kernel_rfl) (by kernel_rfl) (fun _ _ _ _ h => h) (by rfl) ?_; apply Exists.intro; refine ⟨fun w1 h1 K hK => ?_, ?_⟩; · ( go_big_quiet_op; first | exact hK | fail))
        (refine wpAnyP_one (i := 13) (by kernel_rfl) rfl (by rfl) (fun wa hwa K hK => ?_))
        go_simp
        have hA0 := hP0 _ _ (hP0 _ _ hC0 hwa) (below_alloc1 wa (.cells #[.int .i64 (rot r.nb.toNat k b : Nat), .int .i64 (rot r.nm.toNat (k / 3) m : Nat), .int .i64 Sl, .int .i64 Sh] 48))
        refine hK _ _ hA0 ?_
        clear hK K
        have zN := Box.new (g := wa.heap.size) #[.int .i64 (rot r.nb.toNat k b : Nat), .int .i64 (rot r.nm.toNat (k / 3) m : Nat), .int .i64 Sl, .int .i64 Sh] 48 wa rfl
        have hown2 := owns_below (owns_below hown hwa) (below_alloc1 wa (.cells #[.int .i64 (rot r.nb.toNat k b : Nat), .int .i64 (rot r.nm.toNat (k / 3) m : Nat), .int .i64 Sl, .int .i64 Sh] 48))
        clear hown hwa hC0
        obtain ⟨gN, hG⟩ : ∃ G, G = wa.heap.size := ⟨_, rfl⟩
        obtain ⟨wA, hWA⟩ : ∃ X, X = wa.alloc (.cells #[.int .i64 (rot r.nb.toNat k b : Nat), .int .i64 (rot r.nm.toNat (k / 3) m : Nat), .int .i64 Sl, .int .i64 Sh] 48) := ⟨_, rfl⟩
        rw [← hWA] at zN hA0 hown2 ⊢
        rw [← hG] at zN ⊢
        clear hG hWA
        (refine wpAnyP_one (i := 14) (by kernel_rfl) rfl (by rfl) (fun wb hwb K hK => ?_))
        have hC1 := hP0 _ _ hA0 hwb
        have hown1 := owns_below hown2 hwb
        have zN1 := zN.below hwb
        have hgT3 : gT < wo.heap.size ∨ wo.heap.size ≤ gT := by omega
        have zT9 := hC1.2
        refine wp_append_gen (.tmp 118) (.tmp 130) 22 rfl wo.heap.size 48 iR _ 4 32 Tryd.underlying22 hiR hzR0 hzR1 hzR2 rfl (by omega) (.slice oS i cS) i (trpNews i (r.turn k).t) rfl hown1 (some ⟨gN, 0, none⟩) 1 1 [.int .i64 (rot r.nb.toNat k b : Nat), .int .i64 (rot r.nm.toNat (k / 3) m : Nat), .int .i64 Sl, .int .i64 Sh] rfl (fun e9 => by cases e9) rfl (fun ad9 e9 j9 u9 hu9 => by cases e9; rw [add_flat, Nat.zero_add]; exact zN1.cell j9 (by rw [List.getElem?_toArray]; exact hu9)) (by simp [Value.oneCell']) (by simp only [maxLen]; omega) (by omega) hC1.1.same.size (fun vT wS hownS hgrowS => ?_)
        have hA1 := hC1.1.grown hown1 (Nat.le_refl _) hgrowS
        have hA1T : Box gT #[.int .i64 (b : Nat), .int .i64 (m : Nat), .int .i64 Sl, .int .i64 Sh] 48 wS := ⟨heap_grown hgrowS zT9.lt (fun e9 => hPO gT e9.symm rfl) zT9.row⟩
        rw [HN.out] at hownS
        clear hown1 hgrowS hC1 hown2 hwb hA0 zN1 zN zT9 hgT3
        obtain ⟨oT, cT, rfl, -⟩ := owns_form hownS
        go_simp
        refine hK _ _ ⟨hA1, hA1T⟩ ?_
        clear hK K
        (refine wpAnyP_one (i := 15) (by kernel_rfl) rfl (by rfl) (fun wc hwc K hK => ?_))
        have hgx9 := (hA1.on hwc).box.lt
        go_simp
        refine hK _ _ ⟨hA1.on hwc, hA1T.below hwc⟩ ?_
        clear hK K
        (refine wpAnyP_one (i := 16) (by kernel_rfl) rfl (by rfl) (fun wd hwd K hK => ?_))
        have hA2 := (hA1.on hwc).on hwd
        have hownT := owns_below (owns_below hownS hwc) hwd
        refine wp_store_slice hA2.box rfl rfl rfl (by simp) (by kernel_rfl) (fun we ze ho => ?_)
        dsimp only [Act.put]
        have hownU := owns_but hownT ho.but (own_ne hownT hA2.box (by decide))
        have hA3 : AR gX #[.int .i64 r.nb, .int .i64 r.nm, .int .i64 r.most, .slice oT (i + 1) cT] wo we := hA2.only ho ze
        refine hK _ _ ⟨_, hA3⟩ ?_
        clear hK K
        refine wpAnyP_done (by kernel_rfl) (fun wy hwy => ?_) _
        have HAZ := Lib.hid (hA3.on hwy)
        have HOZ := Lib.hid (owns_below hownU hwy)
        clear hA1 hA1T hA2 hA3 hwc hwd hwy hownS hownT hownU ze ho hP0 hP1 HOW2 HAR2 ZT HN hgx9 hPO
        go_wp2_with fail
        go_roundw
        case rel => exact ⟨i + 1, _, _, by omega, by go_num, HOZ, HAZ⟩
        case measure => simp [intOf]; omega
    · obtain rfl : i = r.n := by omega
      have hd1 : decide ((r.n : Int) < (r.n : Int)) = false := by simp
      obtain ⟨oT, cT, e7, hTR⟩ := owns_trps HOW.out
      cases e7
      have IU := Lib.hid (show Vu r w oa ca g g9 k gX oS cS wr from ⟨IX.out, HAR.out.box, hTR⟩)
      obtain ⟨bn, rfl⟩ : ∃ bn : Nat, bench = bn := ⟨bench.toNat, by omega⟩
      obtain ⟨mn, rfl⟩ : ∃ mn : Nat, meter = mn := ⟨meter.toNat, by omega⟩
      have hbn : bn ≤ 1000 := by omega
      have hmn : mn ≤ 1000 := by omega
      have HRN := Lib.hid (And.intro (show -1 ≤ off by omega) (And.intro (show off < r.nb by omega) (And.intro (show (bn : Int) < r.nb by omega) (show (mn : Int) < r.nm by omega))))
      have HE0 := Lib.hid (err_of HV.out HRN.out.1 HRN.out.2.1)
      have HE1 := Lib.hid (show (r.turn k).err (ownI r.nb.toNat k off) = 0 from by
        have h9 := ownI_range (nb := r.nb.toNat) (k := k) (off := off) (by omega) HRN.out.1
        exact err_of (Rnd.turn_valid HV.out k) h9.1 (show ownI r.nb.toNat k off < r.nb by have := h9.2; omega))
      obtain ⟨q, hq⟩ : ∃ q, q = r.fitsB off := ⟨_, rfl⟩
      have HQ0 := Lib.hid hq.symm
      have HQ1 := Lib.hid ((Rnd.turn_fits HV.out k HRN.out.1 HRN.out.2.1).symm.trans hq.symm)
      obtain ⟨S, hS⟩ : ∃ S, S = r.fault off bn := ⟨_, rfl⟩
      have HS0 := Lib.hid hS.symm
      have HS1 := Lib.hid ((Rnd.turn_fault HV.out k HRN.out.1 HRN.out.2.1 HRN.out.2.2.1).symm.trans hS.symm)
      obtain ⟨T, hT⟩ : ∃ T, T = r.error off mn := ⟨_, rfl⟩
      have HT0 := Lib.hid hT.symm
      have HT1 := Lib.hid ((Rnd.turn_error HV.out k HRN.out.1 HRN.out.2.1 HRN.out.2.2.2).symm.trans hT.symm)
      have HCV := Lib.hid (Rnd.turn_convict HV.out k)
      obtain ⟨v1, hv1⟩ : ∃ v, v = r.convict.1 := ⟨_, rfl⟩
      obtain ⟨v2, hv2⟩ : ∃ v, v = r.convict.2 := ⟨_, rfl⟩
      obtain ⟨u1, hu1⟩ : ∃ v, v = (r.turn k).convict.1 := ⟨_, rfl⟩
      have HC1 := Lib.hid hv1.symm
      have HC2 := Lib.hid hv2.symm
      have HC3 := Lib.hid hu1.symm
      have HC4 := Lib.hid (HCV.out.1.symm.trans hv2.symm)
      have HC5 := Lib.hid (show v2 = 0 → ∃ c : Nat, c < r.nb.toNat ∧ v1 = (c : Int) ∧ u1 = ((rot r.nb.toNat k c : Nat) : Int) by rw [hv1, hv2, hu1]; exact HCV.out.2)
      clear hq hS hT hv1 hv2 hu1 HCV HOW HAR hTR IX I1 o2 o3 o4 o5 o6 HIX hi hlt HL0 HGX
      obtain ⟨sa, sb, se⟩ := S
      obtain ⟨ta, tb, te⟩ := T
      by_cases ho : 0 ≤ off
      · obtain ⟨o, rfl⟩ : ∃ o : Nat, off = o := ⟨off.toNat, by omega⟩
        have hoo : o ≤ 1000 := by have := HRN.out.2.1; omega
        have z1 : decide ((o : Int) ≥ 0) = true := decide_eq_true ho
        have z2 : decide (0 ≤ (o : Int)) = true := decide_eq_true ho
        have HOI := Lib.hid (show ownI r.nb.toNat k (o : Int) = (rot r.nb.toNat k o : Nat) by unfold ownI; rw [if_pos ho, Int.toNat_natCast])
        rw [HOI.out] at HE1 HQ1 HS1 HT1
        clear ho o1
        go_wp2_with fail
        refine (HTB.out o _ hoo IU.out.t).mono ?_
        rintro e w5 ⟨rfl, hb⟩
        replace IU := Lib.hid (IU.out.on hb)
        obtain ⟨ow, how⟩ : ∃ x : Int, x = ((rot r.nb.toNat k o : Nat) : Int) := ⟨_, rfl⟩
        rw [← how] at HE1 HQ1 HS1 HT1 ⊢
        obtain ⟨off, hoff⟩ : ∃ x : Int, x = (o : Int) := ⟨_, rfl⟩
        rw [← hoff] at HE0 HQ0 HS0 HT0 HRN z1 z2 ⊢
        clear how hoff HOI hb d3 d4 hd1
        have HFX := Lib.hid (show ∀ W : World, Vu r w oa ca g g9 k gX oS cS W → Calls Tryd.prog 12 #[.agg #[.int .i64 r.nb, .int .i64 r.nm, .int .i64 r.most, .slice oS r.n cS], .int .i64 ow] W (fun e w' => e = .returned (.tuple #[.bool q, .int .i64 0]) ∧ Below W.heap.size W w') from fun W h => by
          have h9 := fits_any (r.turn k) oS cS ow W hn h.t.v.tt h.t.v.t1 h.tr
          rw [HQ1.out, HE1.out] at h9
          exact h9)
        have HSX := Lib.hid (show ∀ W : World, Vu r w oa ca g g9 k gX oS cS W → Calls Tryd.prog 16 #[.agg #[.int .i64 r.nb, .int .i64 r.nm, .int .i64 r.most, .slice oS r.n cS], .int .i64 ow, .int .i64 (rot r.nb.toNat k bn : Nat)] W (fun e w' => e = .returned (Tell.val ⟨sa, sb, se⟩) ∧ Below W.heap.size W w') from fun W h => by
          have h9 := fault_any (r.turn k) oS cS ow (rot r.nb.toNat k bn : Nat) W hn h.t.v.tt h.t.v.t1 h.tr
          rw [HS1.out] at h9
          exact h9)
        have HTX := Lib.hid (show ∀ W : World, Vu r w oa ca g g9 k gX oS cS W → Calls Tryd.prog 18 #[.agg #[.int .i64 r.nb, .int .i64 r.nm, .int .i64 r.most, .slice oS r.n cS], .int .i64 ow, .int .i64 (rot r.nm.toNat (k / 3) mn : Nat)] W (fun e w' => e = .returned (Tell.val ⟨ta, tb, te⟩) ∧ Below W.heap.size W w') from fun W h => by
          have h9 := error_any (r.turn k) oS cS ow (rot r.nm.toNat (k / 3) mn : Nat) W hn h.t.v.tt h.t.v.t1 h.tr
          rw [HT1.out] at h9
          exact h9)
        have HCX := Lib.hid (show ∀ W : World, Vu r w oa ca g g9 k gX oS cS W → Calls Tryd.prog 14 #[.agg #[.int .i64 r.nb, .int .i64 r.nm, .int .i64 r.most, .slice oS r.n cS]] W (fun e w' => e = .returned (.tuple #[.int .i64 u1, .int .i64 v2]) ∧ Below W.heap.size W w') from fun W h => by
          have h9 := convict_any (r.turn k) oS cS W hn h.t.v.tt h.t.v.t1 h.tr
          rw [HC3.out, HC4.out] at h9
          exact h9)
        clear HQ1 HE1 HS1 HT1 HC3 HC4
        obtain ⟨⟨c0, c1, c2, c3, c4⟩, c5, c6⟩ := IU.out.t.cells
        go_wp2_with fail
        refine (fits_any r oa ca off _ hn IU.out.t.v.tt IU.out.t.v.t1 IU.out.t.v.tr).mono ?_
        rintro e w6 ⟨rfl, hb⟩
        rw [HQ0.out, HE0.out]
        replace IU := Lib.hid (IU.out.on hb)
        clear c0 c1 c2 c3 c4 c5 c6 hb HQ0 HE0
        have k0 := IU.out.x.cell 0 (v := .int .i64 r.nb) rfl
        have k1 := IU.out.x.cell 1 (v := .int .i64 r.nm) rfl
        have k2 := IU.out.x.cell 2 (v := .int .i64 r.most) rfl
        have k3 := IU.out.x.cell 3 (v := .slice oS r.n cS) rfl
        have k4 := IU.out.x.lt
        go_wp2_with fail
        refine (HFX.out _ IU.out).mono ?_
        rintro e w7 ⟨rfl, hb⟩
        replace IU := Lib.hid (IU.out.on hb)
        clear k0 k1 k2 k3 k4 hb HFX
        obtain ⟨⟨c0, c1, c2, c3, c4⟩, c5, c6⟩ := IU.out.t.cells
        go_wp2_with fail
        refine (fault_any r oa ca off bn _ hn IU.out.t.v.tt IU.out.t.v.t1 IU.out.t.v.tr).mono ?_
        rintro e w8 ⟨rfl, hb⟩
        rw [HS0.out]
        replace IU := Lib.hid (IU.out.on hb)
        clear c0 c1 c2 c3 c4 c5 c6 hb HS0
        go_upto_region 19 with fail
        have hbl := below_alloc1 w8 (.cells #[.int .i64 sa, .int .i64 sb] 33)
        have Z1 := Lib.hid (Box.new (g := w8.heap.size) #[.int .i64 sa, .int .i64 sb] 33 w8 rfl)
        replace IU := Lib.hid (IU.out.on hbl)
        obtain ⟨b1, hG⟩ : ∃ G, G = w8.heap.size := ⟨_, rfl⟩
        obtain ⟨y8, hW⟩ : ∃ X, X = w8.alloc (.cells #[.int .i64 sa, .int .i64 sb] 33) := ⟨_, rfl⟩
        rw [← hW] at Z1  IU ⊢
        rw [← hG] at Z1 ⊢
        clear hG hW hbl
        have hCC : ∀ A B : World, Below y8.heap.size y8 A → Below A.heap.size A B → Below y8.heap.size y8 B := fun A B h1 h2 => h1.trans (h2.mono h1.size)
        have hC0 : Below y8.heap.size y8 y8.drew := (Below.refl _ _).drew
        refine wp_region_garb (fun A => Below y8.heap.size y8 A) (by kernel_rfl) ?_
        (refine wpAnyG_take (i := 0) hCC hC0 rfl (by kernel_rfl) (by kernel_rfl) (by kernel_rfl) (fun _ _ _ _ h => h) (by rfl) ?_; apply Exists.intro; refine ⟨fun w1 h1 K hK => ?_, ?_⟩; · (have q0 : ∀ V : Aft w1, V.val.cell? ⟨gX, 0, none⟩ = some (.int .i64 r.nb) := fun V => (IU.out.on (hCC _ _ h1 V.below)).x.cell 0 rfl; have q1 : ∀ V : Aft w1, V.val.cell? ⟨gX, 1, none⟩ = some (.int .i64 r.nm) := fun V => (IU.out.on (hCC _ _ h1 V.below)).x.cell 1 rfl; have q2 : ∀ V : Aft w1, V.val.cell? ⟨gX, 2, none⟩ = some (.int .i64 r.most) := fun V => (IU.out.on (hCC _ _ h1 V.below)).x.cell 2 rfl; have q3 : ∀ V : Aft w1, V.val.cell? ⟨gX, 3, none⟩ = some (.slice oS r.n cS) := fun V => (IU.out.on (hCC _ _ h1 V.below)).x.cell 3 rfl; have q4 : ∀ V : Aft w1, gX < V.val.heap.size := fun V => (IU.out.on (hCC _ _ h1 V.below)).x.lt; go_big_quiet_op; first | exact hK | fail))
        (refine wpAnyG_take (i := 1) hCC hC0 rfl (by kernel_rfl) (by kernel_rfl) (by kernel_rfl) (fun _ _ _ _ h => h) (by rfl) ?_; apply Exists.intro; refine ⟨fun w1 h1 K hK => ?_, ?_⟩; · ( go_big_quiet_op; first | exact hK | fail))
        (refine wpAnyG_take (i := 2) hCC hC0 rfl (by kernel_rfl) (by kernel_rfl) (by kernel_rfl) (fun _ _ _ _ h => h) (by rfl) ?_; apply Exists.intro; refine ⟨fun w1 h1 K hK => ?_, ?_⟩; · ( go_big_quiet_op; first | exact hK | fail))
        (refine wpAnyG_take (i := 3) hCC hC0 rfl (by kernel_rfl) (by kernel_rfl) (by kernel_rfl) (fun _ _ _ _ h => h) (by rfl) ?_; apply Exists.intro; refine ⟨fun w1 h1 K hK => ?_, ?_⟩; · ( go_big_quiet_op; first | exact hK | fail))
        (refine wpAnyG_take (i := 4) hCC hC0 rfl (by kernel_rfl) (by kernel_rfl) (by kernel_rfl) (fun _ _ _ _ h => h) (by rfl) ?_; apply Exists.intro; refine ⟨fun w1 h1 K hK => ?_, ?_⟩; · ( go_big_quiet_op; first | exact hK | exact ⟨_, fun W => aft_call (HTB.out bn _ hbn (IU.out.on (hCC _ _ h1 W.below)).t), hK⟩))
        (refine wpAnyG_take (i := 5) hCC hC0 rfl (by kernel_rfl) (by kernel_rfl) (by kernel_rfl) (fun _ _ _ _ h => h) (by rfl) ?_; apply Exists.intro; refine ⟨fun w1 h1 K hK => ?_, ?_⟩; · ( go_big_quiet_op; first | exact hK | exact ⟨_, fun W => aft_call (HSX.out _ (IU.out.on (hCC _ _ h1 W.below))), hK⟩))
        (refine wpAnyG_take (i := 6) hCC hC0 rfl (by kernel_rfl) (by kernel_rfl) (by kernel_rfl) (fun _ _ _ _ h => h) (by rfl) ?_; apply Exists.intro; refine ⟨fun w1 h1 K hK => ?_, ?_⟩; · ( go_big_quiet_op; first | exact hK | fail))
        (refine wpAnyG_take (i := 7) hCC hC0 rfl (by kernel_rfl) (by kernel_rfl) (by kernel_rfl) (fun _ _ _ _ h => h) (by rfl) ?_; apply Exists.intro; refine ⟨fun w1 h1 K hK => ?_, ?_⟩; · ( go_big_quiet_op; first | exact hK | fail))
        (refine wpAnyG_take (i := 8) hCC hC0 rfl (by kernel_rfl) (by kernel_rfl) (by kernel_rfl) (fun _ _ _ _ h => h) (by rfl) ?_; apply Exists.intro; refine ⟨fun w1 h1 K hK => ?_, ?_⟩; · ( go_big_quiet_op; first | exact hK | fail))
        (refine wpAnyG_one (i := 9) (by kernel_rfl) rfl (by rfl) (fun wa hwa K hK => ?_))
        go_simp
        have hC1 := (hCC _ _ hC0 hwa).alloc (by have := hC0.size; have := hwa.size; omega) (.cells #[.int .i64 0, .int .i64 0] 33)
        have s9 := Box.new (g := wa.heap.size) #[.int .i64 0, .int .i64 0] 33 wa rfl
        have hg9 : y8.heap.size ≤ wa.heap.size := Nat.le_trans hC0.size hwa.size
        refine hK _ _ hC1 ?_
        clear hK K hC0 hwa
        obtain ⟨b2, hG⟩ : ∃ G, G = wa.heap.size := ⟨_, rfl⟩
        obtain ⟨wA, hWA⟩ : ∃ X, X = wa.alloc (.cells #[.int .i64 0, .int .i64 0] 33) := ⟨_, rfl⟩
        rw [← hWA] at s9 hC1 ⊢
        rw [← hG] at s9 hg9 ⊢
        clear hG hWA
        (refine wpAnyG_one (i := 10) (by kernel_rfl) rfl (by rfl) (fun wb hwb K hK => ?_))
        refine wp_store_box (s9.below hwb) rfl rfl rfl rfl (by kernel_rfl) (by simp [Value.oneCell']) (fun wc s8 ho => ?_); dsimp only [Act.put]
        have hC2 := (hCC _ _ hC1 hwb).trans (ho.below hg9)
        refine hK _ _ hC2 ?_
        clear hK K s9 hC1 ho hwb hg9
        (refine wpAnyG_one (i := 11) (by kernel_rfl) rfl (by rfl) (fun wd hwd K hK => ?_))
        go_simp
        have hC3 := hCC _ _ hC2 hwd
        refine hK _ _ hC3 ?_
        clear hK K
        refine wpAnyG_done (by kernel_rfl) (fun w9 hw9 => ?_) _
        have hb := hCC _ _ hC3 hw9
        have Z2 := Lib.hid (show Box b2 #[.int .i64 sa, .int .i64 sb] 33 w9 from (s8.below hwd).below hw9)
        replace IU := Lib.hid (IU.out.on hb)
        replace Z1 := Lib.hid (Z1.out.below hb)
        clear hC2 hC3 hwd hw9 hb s8 hCC HSX
        obtain ⟨⟨c0, c1, c2, c3, c4⟩, c5, c6⟩ := IU.out.t.cells
        go_wp2_with fail
        refine (error_any r oa ca off mn _ hn IU.out.t.v.tt IU.out.t.v.t1 IU.out.t.v.tr).mono ?_
        rintro e w10 ⟨rfl, hb⟩
        rw [HT0.out]
        replace IU := Lib.hid (IU.out.on hb)
        replace Z1 := Lib.hid (Z1.out.below hb)
        replace Z2 := Lib.hid (Z2.out.below hb)
        clear c0 c1 c2 c3 c4 c5 c6 hb HT0
        go_upto_region 21 with fail
        have hbl := below_alloc1 w10 (.cells #[.int .i64 ta, .int .i64 tb] 33)
        have Z3 := Lib.hid (Box.new (g := w10.heap.size) #[.int .i64 ta, .int .i64 tb] 33 w10 rfl)
        replace Z1 := Lib.hid (Z1.out.below hbl)
        replace Z2 := Lib.hid (Z2.out.below hbl)
        replace IU := Lib.hid (IU.out.on hbl)
        obtain ⟨b3, hG⟩ : ∃ G, G = w10.heap.size := ⟨_, rfl⟩
        obtain ⟨y10, hW⟩ : ∃ X, X = w10.alloc (.cells #[.int .i64 ta, .int .i64 tb] 33) := ⟨_, rfl⟩
        rw [← hW] at Z3 Z1 Z2 IU ⊢
        rw [← hG] at Z3 ⊢
        clear hG hW hbl
        have hCC : ∀ A B : World, Below y10.heap.size y10 A → Below A.heap.size A B → Below y10.heap.size y10 B := fun A B h1 h2 => h1.trans (h2.mono h1.size)
        have hC0 : Below y10.heap.size y10 y10.drew := (Below.refl _ _).drew
        refine wp_region_garb (fun A => Below y10.heap.size y10 A) (by kernel_rfl) ?_
        (refine wpAnyG_take (i := 0) hCC hC0 rfl (by kernel_rfl) (by kernel_rfl) (by kernel_rfl) (fun _ _ _ _ h => h) (by rfl) ?_; apply Exists.intro; refine ⟨fun w1 h1 K hK => ?_, ?_⟩; · (have q0 : ∀ V : Aft w1, V.val.cell? ⟨gX, 0, none⟩ = some (.int .i64 r.nb) := fun V => (IU.out.on (hCC _ _ h1 V.below)).x.cell 0 rfl; have q1 : ∀ V : Aft w1, V.val.cell? ⟨gX, 1, none⟩ = some (.int .i64 r.nm) := fun V => (IU.out.on (hCC _ _ h1 V.below)).x.cell 1 rfl; have q2 : ∀ V : Aft w1, V.val.cell? ⟨gX, 2, none⟩ = some (.int .i64 r.most) := fun V => (IU.out.on (hCC _ _ h1 V.below)).x.cell 2 rfl; have q3 : ∀ V : Aft w1, V.val.cell? ⟨gX, 3, none⟩ = some (.slice oS r.n cS) := fun V => (IU.out.on (hCC _ _ h1 V.below)).x.cell 3 rfl; have q4 : ∀ V : Aft w1, gX < V.val.heap.size := fun V => (IU.out.on (hCC _ _ h1 V.below)).x.lt; go_big_quiet_op; first | exact hK | fail))
        (refine wpAnyG_take (i := 1) hCC hC0 rfl (by kernel_rfl) (by kernel_rfl) (by kernel_rfl) (fun _ _ _ _ h => h) (by rfl) ?_; apply Exists.intro; refine ⟨fun w1 h1 K hK => ?_, ?_⟩; · ( go_big_quiet_op; first | exact hK | fail))
        (refine wpAnyG_take (i := 2) hCC hC0 rfl (by kernel_rfl) (by kernel_rfl) (by kernel_rfl) (fun _ _ _ _ h => h) (by rfl) ?_; apply Exists.intro; refine ⟨fun w1 h1 K hK => ?_, ?_⟩; · ( go_big_quiet_op; first | exact hK | fail))
        (refine wpAnyG_take (i := 3) hCC hC0 rfl (by kernel_rfl) (by kernel_rfl) (by kernel_rfl) (fun _ _ _ _ h => h) (by rfl) ?_; apply Exists.intro; refine ⟨fun w1 h1 K hK => ?_, ?_⟩; · ( go_big_quiet_op; first | exact hK | fail))
        (refine wpAnyG_take (i := 4) hCC hC0 rfl (by kernel_rfl) (by kernel_rfl) (by kernel_rfl) (fun _ _ _ _ h => h) (by rfl) ?_; apply Exists.intro; refine ⟨fun w1 h1 K hK => ?_, ?_⟩; · ( go_big_quiet_op; first | exact hK | exact ⟨_, fun W => aft_call (HTM.out mn _ hmn (IU.out.on (hCC _ _ h1 W.below)).t), hK⟩))
        (refine wpAnyG_take (i := 5) hCC hC0 rfl (by kernel_rfl) (by kernel_rfl) (by kernel_rfl) (fun _ _ _ _ h => h) (by rfl) ?_; apply Exists.intro; refine ⟨fun w1 h1 K hK => ?_, ?_⟩; · ( go_big_quiet_op; first | exact hK | exact ⟨_, fun W => aft_call (HTX.out _ (IU.out.on (hCC _ _ h1 W.below))), hK⟩))
        (refine wpAnyG_take (i := 6) hCC hC0 rfl (by kernel_rfl) (by kernel_rfl) (by kernel_rfl) (fun _ _ _ _ h => h) (by rfl) ?_; apply Exists.intro; refine ⟨fun w1 h1 K hK => ?_, ?_⟩; · ( go_big_quiet_op; first | exact hK | fail))
        (refine wpAnyG_take (i := 7) hCC hC0 rfl (by kernel_rfl) (by kernel_rfl) (by kernel_rfl) (fun _ _ _ _ h => h) (by rfl) ?_; apply Exists.intro; refine ⟨fun w1 h1 K hK => ?_, ?_⟩; · ( go_big_quiet_op; first | exact hK | fail))
        (refine wpAnyG_take (i := 8) hCC hC0 rfl (by kernel_rfl) (by kernel_rfl) (by kernel_rfl) (fun _ _ _ _ h => h) (by rfl) ?_; apply Exists.intro; refine ⟨fun w1 h1 K hK => ?_, ?_⟩; · ( go_big_quiet_op; first | exact hK | fail))
        (refine wpAnyG_one (i := 9) (by kernel_rfl) rfl (by rfl) (fun wa hwa K hK => ?_))
        go_simp
        have hC1 := (hCC _ _ hC0 hwa).alloc (by have := hC0.size; have := hwa.size; omega) (.cells #[.int .i64 0, .int .i64 0] 33)
        have s9 := Box.new (g := wa.heap.size) #[.int .i64 0, .int .i64 0] 33 wa rfl
        have hg9 : y10.heap.size ≤ wa.heap.size := Nat.le_trans hC0.size hwa.size
        refine hK _ _ hC1 ?_
        clear hK K hC0 hwa
        obtain ⟨b4, hG⟩ : ∃ G, G = wa.heap.size := ⟨_, rfl⟩
        obtain ⟨wA, hWA⟩ : ∃ X, X = wa.alloc (.cells #[.int .i64 0, .int .i64 0] 33) := ⟨_, rfl⟩
        rw [← hWA] at s9 hC1 ⊢
        rw [← hG] at s9 hg9 ⊢
        clear hG hWA
        (refine wpAnyG_one (i := 10) (by kernel_rfl) rfl (by rfl) (fun wb hwb K hK => ?_))
        refine wp_store_box (s9.below hwb) rfl rfl rfl rfl (by kernel_rfl) (by simp [Value.oneCell']) (fun wc s8 ho => ?_); dsimp only [Act.put]
        have hC2 := (hCC _ _ hC1 hwb).trans (ho.below hg9)
        refine hK _ _ hC2 ?_
        clear hK K s9 hC1 ho hwb hg9
        (refine wpAnyG_one (i := 11) (by kernel_rfl) rfl (by rfl) (fun wd hwd K hK => ?_))
        go_simp
        have hC3 := hCC _ _ hC2 hwd
        refine hK _ _ hC3 ?_
        clear hK K
        refine wpAnyG_done (by kernel_rfl) (fun w11 hw11 => ?_) _
        have hb := hCC _ _ hC3 hw11
        have Z4 := Lib.hid (show Box b4 #[.int .i64 ta, .int .i64 tb] 33 w11 from (s8.below hwd).below hw11)
        replace IU := Lib.hid (IU.out.on hb)
        replace Z1 := Lib.hid (Z1.out.below hb)
        replace Z2 := Lib.hid (Z2.out.below hb)
        replace Z3 := Lib.hid (Z3.out.below hb)
        clear hC2 hC3 hwd hw11 hb s8 hCC HTX
        obtain ⟨⟨c0, c1, c2, c3, c4⟩, c5, c6⟩ := IU.out.t.cells
        go_wp2_with fail
        refine (convict_any r oa ca _ hn IU.out.t.v.tt IU.out.t.v.t1 IU.out.t.v.tr).mono ?_
        rintro e w12 ⟨rfl, hb⟩
        rw [HC1.out, HC2.out]
        replace IU := Lib.hid (IU.out.on hb)
        replace Z1 := Lib.hid (Z1.out.below hb)
        replace Z2 := Lib.hid (Z2.out.below hb)
        replace Z3 := Lib.hid (Z3.out.below hb)
        replace Z4 := Lib.hid (Z4.out.below hb)
        clear c0 c1 c2 c3 c4 c5 c6 hb HC1 HC2
        have k0 := IU.out.x.cell 0 (v := .int .i64 r.nb) rfl
        have k1 := IU.out.x.cell 1 (v := .int .i64 r.nm) rfl
        have k2 := IU.out.x.cell 2 (v := .int .i64 r.most) rfl
        have k3 := IU.out.x.cell 3 (v := .slice oS r.n cS) rfl
        have k4 := IU.out.x.lt
        go_wp2_with fail
        refine (HCX.out _ IU.out).mono ?_
        rintro e w13 ⟨rfl, hb⟩
        replace IU := Lib.hid (IU.out.on hb)
        replace Z1 := Lib.hid (Z1.out.below hb)
        replace Z2 := Lib.hid (Z2.out.below hb)
        replace Z3 := Lib.hid (Z3.out.below hb)
        replace Z4 := Lib.hid (Z4.out.below hb)
        clear k0 k1 k2 k3 k4 hb HCX
        have d10 := Z1.out.cell 0 (v := .int .i64 sa) rfl
        have d11 := Z1.out.cell 1 (v := .int .i64 sb) rfl
        have d12 := Z1.out.lt
        have d20 := Z2.out.cell 0 (v := .int .i64 sa) rfl
        have d21 := Z2.out.cell 1 (v := .int .i64 sb) rfl
        have d22 := Z2.out.lt
        have d30 := Z3.out.cell 0 (v := .int .i64 ta) rfl
        have d31 := Z3.out.cell 1 (v := .int .i64 tb) rfl
        have d32 := Z3.out.lt
        have d40 := Z4.out.cell 0 (v := .int .i64 ta) rfl
        have d41 := Z4.out.cell 1 (v := .int .i64 tb) rfl
        have d42 := Z4.out.lt
        have m0 : (q == q) = true := by simp
        have m1 : (sa == sa) = true := by simp
        have m2 : (sb == sb) = true := by simp
        have m3 : (se == se) = true := by simp
        have m4 : (ta == ta) = true := by simp
        have m5 : (tb == tb) = true := by simp
        have m6 : (te == te) = true := by simp
        have m7 : (v2 == v2) = true := by simp
        by_cases hv2 : v2 = 0
        · obtain ⟨c, hc, rfl, rfl⟩ := HC5.out hv2
          subst hv2
          have hc6 : c ≤ 1000 := by omega
          have m9 : (((rot r.nb.toNat k c : Nat) : Int) == ((rot r.nb.toNat k c : Nat) : Int)) = true := by simp
          go_wp2_with fail
          refine (HTB.out c _ hc6 IU.out.t).mono ?_
          rintro e w14 ⟨rfl, hb⟩
          replace IU := Lib.hid (IU.out.on hb)
          clear hb d10 d11 d12 d20 d21 d22 d30 d31 d32 d40 d41 d42
          go_wp2_with fail
          refine (awake_any _ IU.out.t.v.tt IU.out.t.v.t1).mono ?_
          rintro e w15 ⟨rfl, hb⟩
          have HF := Lib.hid (IU.out.on hb).t.v.low
          go_wp2_with fail
          go_ret
          exact ⟨rfl, HF.out⟩
        · have m9 : (v2 != 0) = true := by simpa using hv2
          have m10 : (v2 == 0) = false := by simpa using hv2
          go_wp2_with fail
          refine (awake_any _ IU.out.t.v.tt IU.out.t.v.t1).mono ?_
          rintro e w15 ⟨rfl, hb⟩
          have HF := Lib.hid (IU.out.on hb).t.v.low
          go_wp2_with fail
          go_ret
          exact ⟨rfl, HF.out⟩
      · obtain rfl : off = -1 := by omega
        have HOI := Lib.hid (show ownI r.nb.toNat k (-1) = -1 by unfold ownI; rw [if_neg ho])
        rw [HOI.out] at HE1 HQ1 HS1 HT1
        clear ho o1
        go_upto_region 16 with fail
        obtain ⟨w5, rfl⟩ : ∃ X : World, X = wr := ⟨_, rfl⟩
        clear HOI d3 d4 hd1
        have HFX := Lib.hid (show ∀ W : World, Vu r w oa ca g g9 k gX oS cS W → Calls Tryd.prog 12 #[.agg #[.int .i64 r.nb, .int .i64 r.nm, .int .i64 r.most, .slice oS r.n cS], .int .i64 (-1)] W (fun e w' => e = .returned (.tuple #[.bool q, .int .i64 0]) ∧ Below W.heap.size W w') from fun W h => by
          have h9 := fits_any (r.turn k) oS cS (-1) W hn h.t.v.tt h.t.v.t1 h.tr
          rw [HQ1.out, HE1.out] at h9
          exact h9)
        have HSX := Lib.hid (show ∀ W : World, Vu r w oa ca g g9 k gX oS cS W → Calls Tryd.prog 16 #[.agg #[.int .i64 r.nb, .int .i64 r.nm, .int .i64 r.most, .slice oS r.n cS], .int .i64 (-1), .int .i64 (rot r.nb.toNat k bn : Nat)] W (fun e w' => e = .returned (Tell.val ⟨sa, sb, se⟩) ∧ Below W.heap.size W w') from fun W h => by
          have h9 := fault_any (r.turn k) oS cS (-1) (rot r.nb.toNat k bn : Nat) W hn h.t.v.tt h.t.v.t1 h.tr
          rw [HS1.out] at h9
          exact h9)
        have HTX := Lib.hid (show ∀ W : World, Vu r w oa ca g g9 k gX oS cS W → Calls Tryd.prog 18 #[.agg #[.int .i64 r.nb, .int .i64 r.nm, .int .i64 r.most, .slice oS r.n cS], .int .i64 (-1), .int .i64 (rot r.nm.toNat (k / 3) mn : Nat)] W (fun e w' => e = .returned (Tell.val ⟨ta, tb, te⟩) ∧ Below W.heap.size W w') from fun W h => by
          have h9 := error_any (r.turn k) oS cS (-1) (rot r.nm.toNat (k / 3) mn : Nat) W hn h.t.v.tt h.t.v.t1 h.tr
          rw [HT1.out] at h9
          exact h9)
        have HCX := Lib.hid (show ∀ W : World, Vu r w oa ca g g9 k gX oS cS W → Calls Tryd.prog 14 #[.agg #[.int .i64 r.nb, .int .i64 r.nm, .int .i64 r.most, .slice oS r.n cS]] W (fun e w' => e = .returned (.tuple #[.int .i64 u1, .int .i64 v2]) ∧ Below W.heap.size W w') from fun W h => by
          have h9 := convict_any (r.turn k) oS cS W hn h.t.v.tt h.t.v.t1 h.tr
          rw [HC3.out, HC4.out] at h9
          exact h9)
        clear HQ1 HE1 HS1 HT1 HC3 HC4
        obtain ⟨⟨c0, c1, c2, c3, c4⟩, c5, c6⟩ := IU.out.t.cells
        go_wp2_with fail
        refine (fits_any r oa ca (-1) _ hn IU.out.t.v.tt IU.out.t.v.t1 IU.out.t.v.tr).mono ?_
        rintro e w6 ⟨rfl, hb⟩
        rw [HQ0.out, HE0.out]
        replace IU := Lib.hid (IU.out.on hb)
        clear c0 c1 c2 c3 c4 c5 c6 hb HQ0 HE0
        have k0 := IU.out.x.cell 0 (v := .int .i64 r.nb) rfl
        have k1 := IU.out.x.cell 1 (v := .int .i64 r.nm) rfl
        have k2 := IU.out.x.cell 2 (v := .int .i64 r.most) rfl
        have k3 := IU.out.x.cell 3 (v := .slice oS r.n cS) rfl
        have k4 := IU.out.x.lt
        go_wp2_with fail
        refine (HFX.out _ IU.out).mono ?_
        rintro e w7 ⟨rfl, hb⟩
        replace IU := Lib.hid (IU.out.on hb)
        clear k0 k1 k2 k3 k4 hb HFX
        obtain ⟨⟨c0, c1, c2, c3, c4⟩, c5, c6⟩ := IU.out.t.cells
        go_wp2_with fail
        refine (fault_any r oa ca (-1) bn _ hn IU.out.t.v.tt IU.out.t.v.t1 IU.out.t.v.tr).mono ?_
        rintro e w8 ⟨rfl, hb⟩
        rw [HS0.out]
        replace IU := Lib.hid (IU.out.on hb)
        clear c0 c1 c2 c3 c4 c5 c6 hb HS0
        go_upto_region 19 with fail
        have hbl := below_alloc1 w8 (.cells #[.int .i64 sa, .int .i64 sb] 33)
        have Z1 := Lib.hid (Box.new (g := w8.heap.size) #[.int .i64 sa, .int .i64 sb] 33 w8 rfl)
        replace IU := Lib.hid (IU.out.on hbl)
        obtain ⟨b1, hG⟩ : ∃ G, G = w8.heap.size := ⟨_, rfl⟩
        obtain ⟨y8, hW⟩ : ∃ X, X = w8.alloc (.cells #[.int .i64 sa, .int .i64 sb] 33) := ⟨_, rfl⟩
        rw [← hW] at Z1  IU ⊢
        rw [← hG] at Z1 ⊢
        clear hG hW hbl
        have hCC : ∀ A B : World, Below y8.heap.size y8 A → Below A.heap.size A B → Below y8.heap.size y8 B := fun A B h1 h2 => h1.trans (h2.mono h1.size)
        have hC0 : Below y8.heap.size y8 y8.drew := (Below.refl _ _).drew
        refine wp_region_garb (fun A => Below y8.heap.size y8 A) (by kernel_rfl) ?_
        (refine wpAnyG_take (i := 0) hCC hC0 rfl (by kernel_rfl) (by kernel_rfl) (by kernel_rfl) (fun _ _ _ _ h => h) (by rfl) ?_; apply Exists.intro; refine ⟨fun w1 h1 K hK => ?_, ?_⟩; · (have q0 : ∀ V : Aft w1, V.val.cell? ⟨gX, 0, none⟩ = some (.int .i64 r.nb) := fun V => (IU.out.on (hCC _ _ h1 V.below)).x.cell 0 rfl; have q1 : ∀ V : Aft w1, V.val.cell? ⟨gX, 1, none⟩ = some (.int .i64 r.nm) := fun V => (IU.out.on (hCC _ _ h1 V.below)).x.cell 1 rfl; have q2 : ∀ V : Aft w1, V.val.cell? ⟨gX, 2, none⟩ = some (.int .i64 r.most) := fun V => (IU.out.on (hCC _ _ h1 V.below)).x.cell 2 rfl; have q3 : ∀ V : Aft w1, V.val.cell? ⟨gX, 3, none⟩ = some (.slice oS r.n cS) := fun V => (IU.out.on (hCC _ _ h1 V.below)).x.cell 3 rfl; have q4 : ∀ V : Aft w1, gX < V.val.heap.size := fun V => (IU.out.on (hCC _ _ h1 V.below)).x.lt; go_big_quiet_op; first | exact hK | fail))
        (refine wpAnyG_take (i := 1) hCC hC0 rfl (by kernel_rfl) (by kernel_rfl) (by kernel_rfl) (fun _ _ _ _ h => h) (by rfl) ?_; apply Exists.intro; refine ⟨fun w1 h1 K hK => ?_, ?_⟩; · ( go_big_quiet_op; first | exact hK | fail))
        (refine wpAnyG_take (i := 2) hCC hC0 rfl (by kernel_rfl) (by kernel_rfl) (by kernel_rfl) (fun _ _ _ _ h => h) (by rfl) ?_; apply Exists.intro; refine ⟨fun w1 h1 K hK => ?_, ?_⟩; · ( go_big_quiet_op; first | exact hK | fail))
        (refine wpAnyG_take (i := 3) hCC hC0 rfl (by kernel_rfl) (by kernel_rfl) (by kernel_rfl) (fun _ _ _ _ h => h) (by rfl) ?_; apply Exists.intro; refine ⟨fun w1 h1 K hK => ?_, ?_⟩; · ( go_big_quiet_op; first | exact hK | fail))
        (refine wpAnyG_take (i := 4) hCC hC0 rfl (by kernel_rfl) (by kernel_rfl) (by kernel_rfl) (fun _ _ _ _ h => h) (by rfl) ?_; apply Exists.intro; refine ⟨fun w1 h1 K hK => ?_, ?_⟩; · ( go_big_quiet_op; first | exact hK | exact ⟨_, fun W => aft_call (HTB.out bn _ hbn (IU.out.on (hCC _ _ h1 W.below)).t), hK⟩))
        (refine wpAnyG_take (i := 5) hCC hC0 rfl (by kernel_rfl) (by kernel_rfl) (by kernel_rfl) (fun _ _ _ _ h => h) (by rfl) ?_; apply Exists.intro; refine ⟨fun w1 h1 K hK => ?_, ?_⟩; · ( go_big_quiet_op; first | exact hK | exact ⟨_, fun W => aft_call (HSX.out _ (IU.out.on (hCC _ _ h1 W.below))), hK⟩))
        (refine wpAnyG_take (i := 6) hCC hC0 rfl (by kernel_rfl) (by kernel_rfl) (by kernel_rfl) (fun _ _ _ _ h => h) (by rfl) ?_; apply Exists.intro; refine ⟨fun w1 h1 K hK => ?_, ?_⟩; · ( go_big_quiet_op; first | exact hK | fail))
        (refine wpAnyG_take (i := 7) hCC hC0 rfl (by kernel_rfl) (by kernel_rfl) (by kernel_rfl) (fun _ _ _ _ h => h) (by rfl) ?_; apply Exists.intro; refine ⟨fun w1 h1 K hK => ?_, ?_⟩; · ( go_big_quiet_op; first | exact hK | fail))
        (refine wpAnyG_take (i := 8) hCC hC0 rfl (by kernel_rfl) (by kernel_rfl) (by kernel_rfl) (fun _ _ _ _ h => h) (by rfl) ?_; apply Exists.intro; refine ⟨fun w1 h1 K hK => ?_, ?_⟩; · ( go_big_quiet_op; first | exact hK | fail))
        (refine wpAnyG_one (i := 9) (by kernel_rfl) rfl (by rfl) (fun wa hwa K hK => ?_))
        go_simp
        have hC1 := (hCC _ _ hC0 hwa).alloc (by have := hC0.size; have := hwa.size; omega) (.cells #[.int .i64 0, .int .i64 0] 33)
        have s9 := Box.new (g := wa.heap.size) #[.int .i64 0, .int .i64 0] 33 wa rfl
        have hg9 : y8.heap.size ≤ wa.heap.size := Nat.le_trans hC0.size hwa.size
        refine hK _ _ hC1 ?_
        clear hK K hC0 hwa
        obtain ⟨b2, hG⟩ : ∃ G, G = wa.heap.size := ⟨_, rfl⟩
        obtain ⟨wA, hWA⟩ : ∃ X, X = wa.alloc (.cells #[.int .i64 0, .int .i64 0] 33) := ⟨_, rfl⟩
        rw [← hWA] at s9 hC1 ⊢
        rw [← hG] at s9 hg9 ⊢
        clear hG hWA
        (refine wpAnyG_one (i := 10) (by kernel_rfl) rfl (by rfl) (fun wb hwb K hK => ?_))
        refine wp_store_box (s9.below hwb) rfl rfl rfl rfl (by kernel_rfl) (by simp [Value.oneCell']) (fun wc s8 ho => ?_); dsimp only [Act.put]
        have hC2 := (hCC _ _ hC1 hwb).trans (ho.below hg9)
        refine hK _ _ hC2 ?_
        clear hK K s9 hC1 ho hwb hg9
        (refine wpAnyG_one (i := 11) (by kernel_rfl) rfl (by rfl) (fun wd hwd K hK => ?_))
        go_simp
        have hC3 := hCC _ _ hC2 hwd
        refine hK _ _ hC3 ?_
        clear hK K
        refine wpAnyG_done (by kernel_rfl) (fun w9 hw9 => ?_) _
        have hb := hCC _ _ hC3 hw9
        have Z2 := Lib.hid (show Box b2 #[.int .i64 sa, .int .i64 sb] 33 w9 from (s8.below hwd).below hw9)
        replace IU := Lib.hid (IU.out.on hb)
        replace Z1 := Lib.hid (Z1.out.below hb)
        clear hC2 hC3 hwd hw9 hb s8 hCC HSX
        obtain ⟨⟨c0, c1, c2, c3, c4⟩, c5, c6⟩ := IU.out.t.cells
        go_wp2_with fail
        refine (error_any r oa ca (-1) mn _ hn IU.out.t.v.tt IU.out.t.v.t1 IU.out.t.v.tr).mono ?_
        rintro e w10 ⟨rfl, hb⟩
        rw [HT0.out]
        replace IU := Lib.hid (IU.out.on hb)
        replace Z1 := Lib.hid (Z1.out.below hb)
        replace Z2 := Lib.hid (Z2.out.below hb)
        clear c0 c1 c2 c3 c4 c5 c6 hb HT0
        go_upto_region 21 with fail
        have hbl := below_alloc1 w10 (.cells #[.int .i64 ta, .int .i64 tb] 33)
        have Z3 := Lib.hid (Box.new (g := w10.heap.size) #[.int .i64 ta, .int .i64 tb] 33 w10 rfl)
        replace Z1 := Lib.hid (Z1.out.below hbl)
        replace Z2 := Lib.hid (Z2.out.below hbl)
        replace IU := Lib.hid (IU.out.on hbl)
        obtain ⟨b3, hG⟩ : ∃ G, G = w10.heap.size := ⟨_, rfl⟩
        obtain ⟨y10, hW⟩ : ∃ X, X = w10.alloc (.cells #[.int .i64 ta, .int .i64 tb] 33) := ⟨_, rfl⟩
        rw [← hW] at Z3 Z1 Z2 IU ⊢
        rw [← hG] at Z3 ⊢
        clear hG hW hbl
        have hCC : ∀ A B : World, Below y10.heap.size y10 A → Below A.heap.size A B → Below y10.heap.size y10 B := fun A B h1 h2 => h1.trans (h2.mono h1.size)
        have hC0 : Below y10.heap.size y10 y10.drew := (Below.refl _ _).drew
        refine wp_region_garb (fun A => Below y10.heap.size y10 A) (by kernel_rfl) ?_
        (refine wpAnyG_take (i := 0) hCC hC0 rfl (by kernel_rfl) (by kernel_rfl) (by kernel_rfl) (fun _ _ _ _ h => h) (by rfl) ?_; apply Exists.intro; refine ⟨fun w1 h1 K hK => ?_, ?_⟩; · (have q0 : ∀ V : Aft w1, V.val.cell? ⟨gX, 0, none⟩ = some (.int .i64 r.nb) := fun V => (IU.out.on (hCC _ _ h1 V.below)).x.cell 0 rfl; have q1 : ∀ V : Aft w1, V.val.cell? ⟨gX, 1, none⟩ = some (.int .i64 r.nm) := fun V => (IU.out.on (hCC _ _ h1 V.below)).x.cell 1 rfl; have q2 : ∀ V : Aft w1, V.val.cell? ⟨gX, 2, none⟩ = some (.int .i64 r.most) := fun V => (IU.out.on (hCC _ _ h1 V.below)).x.cell 2 rfl; have q3 : ∀ V : Aft w1, V.val.cell? ⟨gX, 3, none⟩ = some (.slice oS r.n cS) := fun V => (IU.out.on (hCC _ _ h1 V.below)).x.cell 3 rfl; have q4 : ∀ V : Aft w1, gX < V.val.heap.size := fun V => (IU.out.on (hCC _ _ h1 V.below)).x.lt; go_big_quiet_op; first | exact hK | fail))
        (refine wpAnyG_take (i := 1) hCC hC0 rfl (by kernel_rfl) (by kernel_rfl) (by kernel_rfl) (fun _ _ _ _ h => h) (by rfl) ?_; apply Exists.intro; refine ⟨fun w1 h1 K hK => ?_, ?_⟩; · ( go_big_quiet_op; first | exact hK | fail))
        (refine wpAnyG_take (i := 2) hCC hC0 rfl (by kernel_rfl) (by kernel_rfl) (by kernel_rfl) (fun _ _ _ _ h => h) (by rfl) ?_; apply Exists.intro; refine ⟨fun w1 h1 K hK => ?_, ?_⟩; · ( go_big_quiet_op; first | exact hK | fail))
        (refine wpAnyG_take (i := 3) hCC hC0 rfl (by kernel_rfl) (by kernel_rfl) (by kernel_rfl) (fun _ _ _ _ h => h) (by rfl) ?_; apply Exists.intro; refine ⟨fun w1 h1 K hK => ?_, ?_⟩; · ( go_big_quiet_op; first | exact hK | fail))
        (refine wpAnyG_take (i := 4) hCC hC0 rfl (by kernel_rfl) (by kernel_rfl) (by kernel_rfl) (fun _ _ _ _ h => h) (by rfl) ?_; apply Exists.intro; refine ⟨fun w1 h1 K hK => ?_, ?_⟩; · ( go_big_quiet_op; first | exact hK | exact ⟨_, fun W => aft_call (HTM.out mn _ hmn (IU.out.on (hCC _ _ h1 W.below)).t), hK⟩))
        (refine wpAnyG_take (i := 5) hCC hC0 rfl (by kernel_rfl) (by kernel_rfl) (by kernel_rfl) (fun _ _ _ _ h => h) (by rfl) ?_; apply Exists.intro; refine ⟨fun w1 h1 K hK => ?_, ?_⟩; · ( go_big_quiet_op; first | exact hK | exact ⟨_, fun W => aft_call (HTX.out _ (IU.out.on (hCC _ _ h1 W.below))), hK⟩))
        (refine wpAnyG_take (i := 6) hCC hC0 rfl (by kernel_rfl) (by kernel_rfl) (by kernel_rfl) (fun _ _ _ _ h => h) (by rfl) ?_; apply Exists.intro; refine ⟨fun w1 h1 K hK => ?_, ?_⟩; · ( go_big_quiet_op; first | exact hK | fail))
        (refine wpAnyG_take (i := 7) hCC hC0 rfl (by kernel_rfl) (by kernel_rfl) (by kernel_rfl) (fun _ _ _ _ h => h) (by rfl) ?_; apply Exists.intro; refine ⟨fun w1 h1 K hK => ?_, ?_⟩; · ( go_big_quiet_op; first | exact hK | fail))
        (refine wpAnyG_take (i := 8) hCC hC0 rfl (by kernel_rfl) (by kernel_rfl) (by kernel_rfl) (fun _ _ _ _ h => h) (by rfl) ?_; apply Exists.intro; refine ⟨fun w1 h1 K hK => ?_, ?_⟩; · ( go_big_quiet_op; first | exact hK | fail))
        (refine wpAnyG_one (i := 9) (by kernel_rfl) rfl (by rfl) (fun wa hwa K hK => ?_))
        go_simp
        have hC1 := (hCC _ _ hC0 hwa).alloc (by have := hC0.size; have := hwa.size; omega) (.cells #[.int .i64 0, .int .i64 0] 33)
        have s9 := Box.new (g := wa.heap.size) #[.int .i64 0, .int .i64 0] 33 wa rfl
        have hg9 : y10.heap.size ≤ wa.heap.size := Nat.le_trans hC0.size hwa.size
        refine hK _ _ hC1 ?_
        clear hK K hC0 hwa
        obtain ⟨b4, hG⟩ : ∃ G, G = wa.heap.size := ⟨_, rfl⟩
        obtain ⟨wA, hWA⟩ : ∃ X, X = wa.alloc (.cells #[.int .i64 0, .int .i64 0] 33) := ⟨_, rfl⟩
        rw [← hWA] at s9 hC1 ⊢
        rw [← hG] at s9 hg9 ⊢
        clear hG hWA
        (refine wpAnyG_one (i := 10) (by kernel_rfl) rfl (by rfl) (fun wb hwb K hK => ?_))
        refine wp_store_box (s9.below hwb) rfl rfl rfl rfl (by kernel_rfl) (by simp [Value.oneCell']) (fun wc s8 ho => ?_); dsimp only [Act.put]
        have hC2 := (hCC _ _ hC1 hwb).trans (ho.below hg9)
        refine hK _ _ hC2 ?_
        clear hK K s9 hC1 ho hwb hg9
        (refine wpAnyG_one (i := 11) (by kernel_rfl) rfl (by rfl) (fun wd hwd K hK => ?_))
        go_simp
        have hC3 := hCC _ _ hC2 hwd
        refine hK _ _ hC3 ?_
        clear hK K
        refine wpAnyG_done (by kernel_rfl) (fun w11 hw11 => ?_) _
        have hb := hCC _ _ hC3 hw11
        have Z4 := Lib.hid (show Box b4 #[.int .i64 ta, .int .i64 tb] 33 w11 from (s8.below hwd).below hw11)
        replace IU := Lib.hid (IU.out.on hb)
        replace Z1 := Lib.hid (Z1.out.below hb)
        replace Z2 := Lib.hid (Z2.out.below hb)
        replace Z3 := Lib.hid (Z3.out.below hb)
        clear hC2 hC3 hwd hw11 hb s8 hCC HTX
        obtain ⟨⟨c0, c1, c2, c3, c4⟩, c5, c6⟩ := IU.out.t.cells
        go_wp2_with fail
        refine (convict_any r oa ca _ hn IU.out.t.v.tt IU.out.t.v.t1 IU.out.t.v.tr).mono ?_
        rintro e w12 ⟨rfl, hb⟩
        rw [HC1.out, HC2.out]
        replace IU := Lib.hid (IU.out.on hb)
        replace Z1 := Lib.hid (Z1.out.below hb)
        replace Z2 := Lib.hid (Z2.out.below hb)
        replace Z3 := Lib.hid (Z3.out.below hb)
        replace Z4 := Lib.hid (Z4.out.below hb)
        clear c0 c1 c2 c3 c4 c5 c6 hb HC1 HC2
        have k0 := IU.out.x.cell 0 (v := .int .i64 r.nb) rfl
        have k1 := IU.out.x.cell 1 (v := .int .i64 r.nm) rfl
        have k2 := IU.out.x.cell 2 (v := .int .i64 r.most) rfl
        have k3 := IU.out.x.cell 3 (v := .slice oS r.n cS) rfl
        have k4 := IU.out.x.lt
        go_wp2_with fail
        refine (HCX.out _ IU.out).mono ?_
        rintro e w13 ⟨rfl, hb⟩
        replace IU := Lib.hid (IU.out.on hb)
        replace Z1 := Lib.hid (Z1.out.below hb)
        replace Z2 := Lib.hid (Z2.out.below hb)
        replace Z3 := Lib.hid (Z3.out.below hb)
        replace Z4 := Lib.hid (Z4.out.below hb)
        clear k0 k1 k2 k3 k4 hb HCX
        have d10 := Z1.out.cell 0 (v := .int .i64 sa) rfl
        have d11 := Z1.out.cell 1 (v := .int .i64 sb) rfl
        have d12 := Z1.out.lt
        have d20 := Z2.out.cell 0 (v := .int .i64 sa) rfl
        have d21 := Z2.out.cell 1 (v := .int .i64 sb) rfl
        have d22 := Z2.out.lt
        have d30 := Z3.out.cell 0 (v := .int .i64 ta) rfl
        have d31 := Z3.out.cell 1 (v := .int .i64 tb) rfl
        have d32 := Z3.out.lt
        have d40 := Z4.out.cell 0 (v := .int .i64 ta) rfl
        have d41 := Z4.out.cell 1 (v := .int .i64 tb) rfl
        have d42 := Z4.out.lt
        have m0 : (q == q) = true := by simp
        have m1 : (sa == sa) = true := by simp
        have m2 : (sb == sb) = true := by simp
        have m3 : (se == se) = true := by simp
        have m4 : (ta == ta) = true := by simp
        have m5 : (tb == tb) = true := by simp
        have m6 : (te == te) = true := by simp
        have m7 : (v2 == v2) = true := by simp
        by_cases hv2 : v2 = 0
        · obtain ⟨c, hc, rfl, rfl⟩ := HC5.out hv2
          subst hv2
          have hc6 : c ≤ 1000 := by omega
          have m9 : (((rot r.nb.toNat k c : Nat) : Int) == ((rot r.nb.toNat k c : Nat) : Int)) = true := by simp
          go_wp2_with fail
          refine (HTB.out c _ hc6 IU.out.t).mono ?_
          rintro e w14 ⟨rfl, hb⟩
          replace IU := Lib.hid (IU.out.on hb)
          clear hb d10 d11 d12 d20 d21 d22 d30 d31 d32 d40 d41 d42
          go_wp2_with fail
          refine (awake_any _ IU.out.t.v.tt IU.out.t.v.t1).mono ?_
          rintro e w15 ⟨rfl, hb⟩
          have HF := Lib.hid (IU.out.on hb).t.v.low
          go_wp2_with fail
          go_ret
          exact ⟨rfl, HF.out⟩
        · have m9 : (v2 != 0) = true := by simpa using hv2
          have m10 : (v2 == 0) = false := by simpa using hv2
          go_wp2_with fail
          refine (awake_any _ IU.out.t.v.tt IU.out.t.v.t1).mono ?_
          rintro e w15 ⟨rfl, hb⟩
          have HF := Lib.hid (IU.out.on hb).t.v.low
          go_wp2_with fail
          go_ret
          exact ⟨rfl, HF.out⟩
end Go.Proofs.YtldodmfmibeoiaaDoor
