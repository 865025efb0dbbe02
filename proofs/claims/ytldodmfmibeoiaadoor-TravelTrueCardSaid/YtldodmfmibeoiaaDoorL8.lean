/- TravelTrue returns true. -/
import Derived.Test.YtldodmfmibeoiaaDoorT3
namespace Go.Proofs.YtldodmfmibeoiaaDoor
open Go.RowKit
/-- what TravelTrue keeps -/
structure Vw (r : Rnd) (w : World) (oa oF oE : Option Addr) (ca nF nE : Nat) (F E : Nat → Int) (g : Nat) (W : World) : Prop where
  low : Below w.heap.size w W
  b : Box g #[.int .i64 r.nb, .int .i64 r.nm, .int .i64 r.most, .slice oa r.n ca] 24 W
  tr : TrpsAt W oa r.n r.t
  fa : IntsAt W oF nF F
  er : IntsAt W oE nE E
  tt : TabAt 1 Lib.deBruijn64tab W
  t1 : 1 < W.heap.size
section
variable {r : Rnd} {w W W' : World} {oa oF oE : Option Addr} {ca nF nE : Nat} {F E : Nat → Int} {g : Nat}
theorem Vw.on (h : Vw r w oa oF oE ca nF nE F E g W) (hb : Below W.heap.size W W') : Vw r w oa oF oE ca nF nE F E g W' :=
  ⟨h.low.trans (hb.mono h.low.size), h.b.below hb, h.tr.mono hb, h.fa.mono hb, h.er.mono hb, tab_below h.tt h.t1 hb, Nat.lt_of_lt_of_le h.t1 hb.size⟩
theorem Vw.cells (h : Vw r w oa oF oE ca nF nE F E g W) : W.cell? ⟨g, 0, none⟩ = some (.int .i64 r.nb) ∧ W.cell? ⟨g, 1, none⟩ = some (.int .i64 r.nm) ∧ W.cell? ⟨g, 2, none⟩ = some (.int .i64 r.most) ∧ W.cell? ⟨g, 3, none⟩ = some (.slice oa r.n ca) ∧ g < W.heap.size :=
  ⟨h.b.cell 0 rfl, h.b.cell 1 rfl, h.b.cell 2 rfl, h.b.cell 3 rfl, h.b.lt⟩
end
set_option maxRecDepth 100000 in
set_option maxHeartbeats 40000000 in
theorem travelTrue_any (a b m d : Nat) (ka : Option Addr) (kn kc : Nat) (q : Nat → Nat) (w : World) (hT : TabAt 1 Lib.deBruijn64tab w) (h1 : 1 < w.heap.size) (ha : a < 256) (hb : b < 256) (hm : m < 256) (hd : d < 256) (hQ : U16sAt w ka kn q) (hkn2 : kn ≤ 9223372036854775807) :
    Calls Tryd.prog 6 #[.int .u8 (a : Nat), .int .u8 (b : Nat), .int .u8 (m : Nat), .int .u8 (d : Nat), .slice ka kn kc] w fun e w' => e = .returned (.bool true) ∧ Below w.heap.size w w' := by
  have HT := Lib.hid hT
  have HQ := Lib.hid hQ
  clear hT hQ
  go_enter Tryd.func6, Tryd.ntmps6
  by_cases hk0 : kn = 0
  · have hd : ((kn : Int) == 0) = true := by subst hk0; rfl
    go_wp2_with fail
    refine (awake_any _ HT.out h1).mono ?_
    rintro e X1 ⟨rfl, hb⟩
    go_wp2_with fail
    go_ret
    exact ⟨rfl, hb⟩
  have hdk : ((kn : Int) == 0) = false := by simp; omega
  go_wp2_with fail
  refine (truth_any a b m d ka kn kc q _ ha hb hm hd (by omega) hkn2 HQ.out).mono ?_
  rintro e X1 ⟨⟨r, F, E, off, oa, oF, oE, ca, cF, cE, nF, nE, rfl, htr, hnb, hnm, hA, hIF, hIE⟩, hbl⟩
  have HTR := Lib.hid htr
  have hn : r.n ≤ 1000000 := by have := htr.n; omega
  have hm1 : 0 ≤ r.most := htr.most.1
  have hm2 : r.most ≤ 255 := htr.most.2
  have HNB := Lib.hid hnb
  have HNM := Lib.hid hnm
  have hn7 : nF ≤ 6 := by have := htr.nb; omega
  have hn8 : nE ≤ 6 := by have := htr.nm; omega
  have hb1 := hbl.trans ((below_alloc1 X1 (.cells #[.int .i64 r.nb, .int .i64 r.nm, .int .i64 r.most, .slice oa r.n ca] 24)).mono hbl.size)
  have hb2 := below_alloc1 X1 (.cells #[.int .i64 r.nb, .int .i64 r.nm, .int .i64 r.most, .slice oa r.n ca] 24)
  have I0 := Lib.hid (show Vw r w oa oF oE ca nF nE F E X1.heap.size (X1.alloc (.cells #[.int .i64 r.nb, .int .i64 r.nm, .int .i64 r.most, .slice oa r.n ca] 24)) from
    ⟨hb1, Box.new _ _ X1 rfl, hA.mono hb2, hIF.mono hb2, hIE.mono hb2, tab_below HT.out h1 hb1, Nat.lt_of_lt_of_le h1 hb1.size⟩)
  clear hb1 hb2 hA hIF hIE hbl htr hnb hnm HT HQ hdk hk0
  go_upto_region 4 with fail
  obtain ⟨g, hG⟩ : ∃ G, G = X1.heap.size := ⟨_, rfl⟩
  obtain ⟨X2, hW⟩ : ∃ X, X = X1.alloc (.cells #[.int .i64 r.nb, .int .i64 r.nm, .int .i64 r.most, .slice oa r.n ca] 24) := ⟨_, rfl⟩
  rw [← hG] at I0 ⊢
  rw [← hW] at I0 ⊢
  clear hG hW
  obtain ⟨c0, c1, c2, c3, c4⟩ := I0.out.cells
  go_wp2_with fail
  refine (fits_any r oa ca off _ hn I0.out.tt I0.out.t1 I0.out.tr).mono ?_
  rintro e X3 ⟨rfl, hb⟩
  rw [HTR.out.fits, HTR.out.err]
  have I1 := Lib.hid (I0.out.on hb)
  clear I0 c0 c1 c2 c3 c4 hb
  obtain ⟨c0, c1, c2, c3, c4⟩ := I1.out.cells
  go_wp2_with fail
  refine (clash_any r oa ca off _ hn I1.out.tt I1.out.t1 I1.out.tr).mono ?_
  intro e X4 hcp
  obtain ⟨rfl, hb⟩ := HTR.out.clash hcp
  have I2 := Lib.hid (I1.out.on hb)
  clear I1 c0 c1 c2 c3 c4 hb hcp
  obtain ⟨c0, c1, c2, c3, c4⟩ := I2.out.cells
  have HCV := Lib.hid HTR.out.conv
  obtain ⟨CC, hCC⟩ : ∃ y, y = r.convict := ⟨_, rfl⟩
  have HCC := Lib.hid hCC.symm
  rw [← hCC] at HCV
  clear hCC
  go_wp2_with fail
  refine (convict_any r oa ca _ hn I2.out.tt I2.out.t1 I2.out.tr).mono ?_
  rintro e X5 ⟨rfl, hb⟩
  rw [HCC.out]
  obtain ⟨cb, ce⟩ := CC
  dsimp only at HCV ⊢
  have I3 := Lib.hid (I2.out.on hb)
  clear I2 c0 c1 c2 c3 c4 hb HCC
  have hcs : (ce = 0 ∧ cb = off ∧ 0 ≤ off) ∨ ce = 4 ∨ (ce = 12 ∧ 0 ≤ off) := by
    obtain ⟨p1, p2, p3⟩ := HCV.out
    rcases p2 with p | p | p
    · exact .inl ⟨p, p1 p, by omega⟩
    · exact .inr (.inl p)
    · exact .inr (.inr ⟨p, by omega⟩)
  clear HCV
  go_upto_region 7 with fail
  go_cut [102] (fun s102 wx => s102 = .bool false ∧ wx = X5)
  case first =>
    rcases hcs with ⟨rfl, rfl, h0⟩ | rfl | ⟨rfl, h0⟩
    · have d0 : decide (cb < 0) = false := decide_eq_false (by omega)
      go_wp2_with fail
      go_meet
      exact ⟨rfl, rfl⟩
    · by_cases h0 : off < 0
      · have d0 : decide (off < 0) = true := decide_eq_true h0
        go_wp2_with fail
        go_meet
        exact ⟨rfl, rfl⟩
      · have d0 : decide (off < 0) = false := decide_eq_false h0
        go_wp2_with fail
        go_meet
        exact ⟨rfl, rfl⟩
    · have d0 : decide (off < 0) = false := decide_eq_false (by omega)
      go_wp2_with fail
      go_meet
      exact ⟨rfl, rfl⟩
  case rest =>
    obtain ⟨rfl, rfl⟩ := hcut
    clear hcs
    go_wp2_with fail
    go_loopw [21] (fun v21 wr => ∃ i : Nat, i ≤ nF ∧ v21 = .int .i64 (i : Nat) ∧ Vw r w oa oF oE ca nF nE F E g wr) (fun v21 _ => nF - (intOf v21).toNat)
    case atStart => exact ⟨0, Nat.zero_le _, rfl, I3.out⟩
    case round =>
      obtain ⟨i, hi, rfl, hI⟩ := hrel
      have I4 := Lib.hid hI
      clear hI I3
      obtain ⟨c0, c1, c2, c3, c4⟩ := I4.out.cells
      by_cases hin : i < nF
      · have hd3 : decide (i < nF) = true := decide_eq_true hin
        have hd4 : decide ((i : Int) < (nF : Int)) = true := decide_eq_true (by omega)
        have HTOLD := Lib.hid (HTR.out.told (b := i) (by have := HNB.out; omega))
        obtain ⟨T, hTT⟩ : ∃ T, T = r.fault off (i : Nat) := ⟨_, rfl⟩
        have HTT := Lib.hid hTT.symm
        rw [← hTT] at HTOLD
        clear hTT
        go_wp2_with fail
        refine (fault_any r oa ca off (i : Nat) _ hn I4.out.tt I4.out.t1 I4.out.tr).mono ?_
        rintro e X4 ⟨rfl, hb4⟩
        rw [HTT.out]
        obtain ⟨sl, sh, se⟩ := T
        dsimp only at HTOLD
        have I5 := Lib.hid (I4.out.on hb4)
        clear hb4 I4 c0 c1 c2 c3 c4 hd3 hd4
        go_upto_region 13 with fail
        have hI6 := I5.out.on (below_alloc1 X4 (.cells #[.int .i64 sl, .int .i64 sh] 33))
        have zR := Box.new (g := X4.heap.size) #[.int .i64 sl, .int .i64 sh] 33 X4 rfl
        obtain ⟨X5, hW⟩ : ∃ X, X = X4.alloc (.cells #[.int .i64 sl, .int .i64 sh] 33) := ⟨_, rfl⟩
        rw [← hW] at hI6 zR ⊢
        clear hW
        obtain ⟨gR, hG⟩ : ∃ G, G = X4.heap.size := ⟨_, rfl⟩
        rw [← hG] at zR ⊢
        clear hG
        have f1 : ∀ W : Aft X5, W.val.cell? ⟨gR, 0, none⟩ = some (.int .i64 sl) := fun W => (zR.below W.below).cell 0 rfl
        have f2 : ∀ W : Aft X5, W.val.cell? ⟨gR, 1, none⟩ = some (.int .i64 sh) := fun W => (zR.below W.below).cell 1 rfl
        have f3 : ∀ W : Aft X5, W.val.cell? ⟨g, 2, none⟩ = some (.int .i64 r.most) := fun W => (hI6.b.below W.below).cell 2 rfl
        have hi0 : (0 : Int) ≤ (i : Int) := by omega
        obtain ⟨fb, fo, e9, hfl, fc⟩ := hI6.fa i hin
        subst e9
        obtain ⟨fi, hfi⟩ : ∃ y, y = F i := ⟨_, rfl⟩
        rw [← hfi] at fc HTOLD
        clear hfi
        have f4 : ∀ W : Aft X5, W.val.cell? ⟨fb, fo + i, none⟩ = some (.int .i64 fi) := fun W => (W.below.cell (p := ⟨fb, fo + i, none⟩) hfl).trans fc
        have I6 := Lib.hid hI6
        clear hI6 zR I5 fc hfl
        have hi1 : (i : Int) < (nF : Int) := by omega
        rcases HTOLD.out with ⟨rfl, ⟨u1, u2⟩, h3⟩ | ⟨rfl, h4⟩
        · have d1 : decide (fi < sl) = false := decide_eq_false (by omega)
          have d2 : decide (fi > sh) = false := decide_eq_false (by omega)
          have d2' : decide (sh < fi) = false := decide_eq_false (by omega)
          by_cases h4 : (i : Int) = off
          · have d3 : ((i : Int) != off) = false := by simp [h4]
            clear HTOLD h4 u1 u2
            refine wp_region_aft (by kernel_rfl) (by kernel_rfl) ?_
            repeat (go_big_quiet_step (fail))
            refine wpQuiet_nil ?_
            intro WA
            obtain ⟨wy, hwy⟩ : ∃ X, X = WA.val := ⟨_, rfl⟩
            have hby := WA.below
            rw [← hwy] at hby ⊢
            clear hwy WA
            have I7 := Lib.hid (I6.out.on hby)
            clear hby
            go_wp2_with fail
            go_roundw
            case rel => exact ⟨i + 1, by omega, by go_num, I7.out⟩
            case measure => simp [intOf]; omega
          · have d3 : ((i : Int) != off) = true := by simp [h4]
            obtain ⟨h5, h6⟩ := h3.resolve_left h4
            have d5 : decide (sl < -r.most) = false := decide_eq_false (by omega)
            have d6 : decide (sh > r.most) = false := decide_eq_false (by omega)
            have d6' : decide (r.most < sh) = false := decide_eq_false (by omega)
            clear HTOLD h4 h3 u1 u2 h5 h6
            refine wp_region_aft (by kernel_rfl) (by kernel_rfl) ?_
            repeat (go_big_quiet_step (fail))
            refine wpQuiet_nil ?_
            intro WA
            obtain ⟨wy, hwy⟩ : ∃ X, X = WA.val := ⟨_, rfl⟩
            have hby := WA.below
            rw [← hwy] at hby ⊢
            clear hwy WA
            have I7 := Lib.hid (I6.out.on hby)
            clear hby
            go_wp2_with fail
            go_roundw
            case rel => exact ⟨i + 1, by omega, by go_num, I7.out⟩
            case measure => simp [intOf]; omega
        · have d3 : ((i : Int) != off) = false := by simp [h4]
          clear HTOLD h4
          refine wp_region_aft (by kernel_rfl) (by kernel_rfl) ?_
          repeat (go_big_quiet_step (fail))
          refine wpQuiet_nil ?_
          intro WA
          obtain ⟨wy, hwy⟩ : ∃ X, X = WA.val := ⟨_, rfl⟩
          have hby := WA.below
          rw [← hwy] at hby ⊢
          clear hwy WA
          have I7 := Lib.hid (I6.out.on hby)
          clear hby
          go_wp2_with fail
          go_roundw
          case rel => exact ⟨i + 1, by omega, by go_num, I7.out⟩
          case measure => simp [intOf]; omega
      · have hd3 : decide (i < nF) = false := decide_eq_false hin
        have hd4 : decide ((i : Int) < (nF : Int)) = false := decide_eq_false (by omega)
        go_wp2_with fail
        go_loopw [24] (fun v24 wr => ∃ i : Nat, i ≤ nE ∧ v24 = .int .i64 (i : Nat) ∧ Vw r w oa oF oE ca nF nE F E g wr) (fun v24 _ => nE - (intOf v24).toNat)
        case atStart => exact ⟨0, Nat.zero_le _, rfl, I4.out⟩
        case round =>
          clear hd3 hd4 hin hi I4 c0 c1 c2 c3 c4
          obtain ⟨i, hi, rfl, hI⟩ := hrel
          have I4 := Lib.hid hI
          clear hI
          obtain ⟨c0, c1, c2, c3, c4⟩ := I4.out.cells
          by_cases hin : i < nE
          · have hd3 : decide (i < nE) = true := decide_eq_true hin
            have hd4 : decide ((i : Int) < (nE : Int)) = true := decide_eq_true (by omega)
            have HTOLD := Lib.hid (HTR.out.tells (m := i) (by have := HNM.out; omega))
            obtain ⟨T, hTT⟩ : ∃ T, T = r.error off (i : Nat) := ⟨_, rfl⟩
            have HTT := Lib.hid hTT.symm
            rw [← hTT] at HTOLD
            clear hTT
            go_wp2_with fail
            refine (error_any r oa ca off (i : Nat) _ hn I4.out.tt I4.out.t1 I4.out.tr).mono ?_
            rintro e X4 ⟨rfl, hb4⟩
            rw [HTT.out]
            obtain ⟨sl, sh, se⟩ := T
            dsimp only at HTOLD
            have I5 := Lib.hid (I4.out.on hb4)
            clear hb4 I4 c0 c1 c2 c3 c4 hd3 hd4
            go_upto_region 19 with fail
            have hI6 := I5.out.on (below_alloc1 X4 (.cells #[.int .i64 sl, .int .i64 sh] 33))
            have zR := Box.new (g := X4.heap.size) #[.int .i64 sl, .int .i64 sh] 33 X4 rfl
            obtain ⟨X5, hW⟩ : ∃ X, X = X4.alloc (.cells #[.int .i64 sl, .int .i64 sh] 33) := ⟨_, rfl⟩
            rw [← hW] at hI6 zR ⊢
            clear hW
            obtain ⟨gR, hG⟩ : ∃ G, G = X4.heap.size := ⟨_, rfl⟩
            rw [← hG] at zR ⊢
            clear hG
            have f1 : ∀ W : Aft X5, W.val.cell? ⟨gR, 0, none⟩ = some (.int .i64 sl) := fun W => (zR.below W.below).cell 0 rfl
            have f2 : ∀ W : Aft X5, W.val.cell? ⟨gR, 1, none⟩ = some (.int .i64 sh) := fun W => (zR.below W.below).cell 1 rfl
            have f3 : ∀ W : Aft X5, W.val.cell? ⟨g, 2, none⟩ = some (.int .i64 r.most) := fun W => (hI6.b.below W.below).cell 2 rfl
            have hi0 : (0 : Int) ≤ (i : Int) := by omega
            obtain ⟨fb, fo, e9, hfl, fc⟩ := hI6.er i hin
            subst e9
            obtain ⟨fi, hfi⟩ : ∃ y, y = E i := ⟨_, rfl⟩
            rw [← hfi] at fc HTOLD
            clear hfi
            have f4 : ∀ W : Aft X5, W.val.cell? ⟨fb, fo + i, none⟩ = some (.int .i64 fi) := fun W => (W.below.cell (p := ⟨fb, fo + i, none⟩) hfl).trans fc
            have I6 := Lib.hid hI6
            clear hI6 zR I5 fc hfl
            have hi1 : (i : Int) < (nE : Int) := by omega
            rcases HTOLD.out with ⟨rfl, u1, u2⟩ | rfl
            · have d1 : decide (fi < sl) = false := decide_eq_false (by omega)
              have d2 : decide (fi > sh) = false := decide_eq_false (by omega)
              have d2' : decide (sh < fi) = false := decide_eq_false (by omega)
              clear HTOLD u1 u2
              refine wp_region_aft (by kernel_rfl) (by kernel_rfl) ?_
              repeat (go_big_quiet_step (fail))
              refine wpQuiet_nil ?_
              intro WA
              obtain ⟨wy, hwy⟩ : ∃ X, X = WA.val := ⟨_, rfl⟩
              have hby := WA.below
              rw [← hwy] at hby ⊢
              clear hwy WA
              have I7 := Lib.hid (I6.out.on hby)
              clear hby
              go_wp2_with fail
              go_roundw
              case rel => exact ⟨i + 1, by omega, by go_num, I7.out⟩
              case measure => simp [intOf]; omega
            · clear HTOLD
              refine wp_region_aft (by kernel_rfl) (by kernel_rfl) ?_
              repeat (go_big_quiet_step (fail))
              refine wpQuiet_nil ?_
              intro WA
              obtain ⟨wy, hwy⟩ : ∃ X, X = WA.val := ⟨_, rfl⟩
              have hby := WA.below
              rw [← hwy] at hby ⊢
              clear hwy WA
              have I7 := Lib.hid (I6.out.on hby)
              clear hby
              go_wp2_with fail
              go_roundw
              case rel => exact ⟨i + 1, by omega, by go_num, I7.out⟩
              case measure => simp [intOf]; omega
          · have hd3 : decide (i < nE) = false := decide_eq_false hin
            have hd4 : decide ((i : Int) < (nE : Int)) = false := decide_eq_false (by omega)
            go_wp2_with fail
            refine (awake_any _ I4.out.tt I4.out.t1).mono ?_
            rintro e X2 ⟨rfl, hb⟩
            have I9 := Lib.hid (I4.out.on hb)
            clear hb
            go_wp2_with fail
            go_ret
            exact ⟨rfl, I9.out.low⟩
end Go.Proofs.YtldodmfmibeoiaaDoor
