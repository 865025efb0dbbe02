/- TravelProof returns true. -/
import Derived.Test.YtldodmfmibeoiaaDoorP13
import Derived.Test.YtldodmfmibeoiaaDoorL3
namespace Go.Proofs.YtldodmfmibeoiaaDoor
open Go.RowKit
theorem ofInt_u16 (a : Nat) (ha : a < 65536) : (BitVec.ofInt 16 (a : Int)).toNat = a := by
  rw [BitVec.ofInt_natCast, BitVec.toNat_ofNat]; exact Nat.mod_eq_of_lt (by omega)
theorem u16_and_nat (a b : Nat) (ha : a < 65536) (hb : b < 65536) : bits .and .u16 (a : Int) (b : Int) = ((a &&& b : Nat) : Int) := by
  have hx : a &&& b < 2 ^ 16 := Nat.and_lt_two_pow _ (by omega)
  show IntKind.u16.wrap ((BitVec.ofInt 16 (a : Int) &&& BitVec.ofInt 16 (b : Int)).toNat : Int) = _
  rw [BitVec.toNat_and, ofInt_u16 a ha, ofInt_u16 b hb]
  show ((a &&& b : Nat) : Int) % 65536 = _
  omega
theorem shr_nat16 (x i : Nat) : (x : Int) / (2 : Int) ^ i = ((x / 2 ^ i : Nat) : Int) := by
  rw [Int.natCast_ediv]
  congr 1
/-- one bit of a set -/
theorem bit16 {x i : Nat} (h : x < 65536) : (bits BinOp.and IntKind.u16 ((x : Int) / 2 ^ i) 1 == 1) = x.testBit i := by
  rw [shr_nat16]
  have hb := Nat.div_le_self x (2 ^ i)
  have h1 := u16_and_nat (x / 2 ^ i) 1 (by omega) (by omega)
  rw [Nat.and_one_is_mod] at h1
  rw [show (1 : Int) = ((1 : Nat) : Int) from rfl, h1]
  have h2 : x.testBit i = decide (x / 2 ^ i % 2 = 1) := by rw [Nat.testBit_eq_decide_div_mod_eq]
  rw [h2]
  by_cases h3 : x / 2 ^ i % 2 = 1
  · rw [decide_eq_true h3, h3]; rfl
  · rw [decide_eq_false h3]
    have h4 : x / 2 ^ i % 2 = 0 := by omega
    rw [h4]; rfl
/-- what TravelProof keeps -/
structure Vo (r : Rnd) (w : World) (oa : Option Addr) (ca g gO : Nat) (off : Int) (W : World) : Prop where
  v : Vr r w oa ca g W
  o : Box gO #[.int .i64 off] 3 W
theorem Vo.on {r : Rnd} {w A B : World} {oa : Option Addr} {ca g gO : Nat} {off : Int} (h : Vo r w oa ca g gO off A) (hb : Below A.heap.size A B) : Vo r w oa ca g gO off B := ⟨h.v.on hb, h.o.below hb⟩
theorem Vo.cells {r : Rnd} {w A : World} {oa : Option Addr} {ca g gO : Nat} {off : Int} (h : Vo r w oa ca g gO off A) : (A.cell? ⟨g, 0, none⟩ = some (.int .i64 r.nb) ∧ A.cell? ⟨g, 1, none⟩ = some (.int .i64 r.nm) ∧ A.cell? ⟨g, 2, none⟩ = some (.int .i64 r.most) ∧ A.cell? ⟨g, 3, none⟩ = some (.slice oa r.n ca) ∧ g < A.heap.size) ∧ A.cell? ⟨gO, 0, none⟩ = some (.int .i64 off) ∧ gO < A.heap.size :=
  ⟨h.v.cells, h.o.cell 0 rfl, h.o.lt⟩
theorem Vo.start {r : Rnd} {w : World} {oa : Option Addr} {ca : Nat} (off : Int) (hR : TrpsAt w oa r.n r.t) (hT : TabAt 1 Lib.deBruijn64tab w) (h1 : 1 < w.heap.size) : Vo r w oa ca w.heap.size (w.heap.size + 1) off ((w.alloc (.cells #[.int .i64 r.nb, .int .i64 r.nm, .int .i64 r.most, .slice oa r.n ca] 24)).alloc (.cells #[.int .i64 off] 3)) := by
  have h := Vr.start (ca := ca) hR hT h1
  exact ⟨h.on (below_alloc1 _ _), Box.new _ _ _ (by simp)⟩
theorem ints_map {w : World} {o : Option Addr} {L : List Nat} (h : IntsAt w o (L.map fun k : Nat => (k : Int)).length (fun i => (L.map fun k : Nat => (k : Int)).getD i 0)) : IntsAt w o L.length (fun i => ((L.getD i 0 : Nat) : Int)) := fun i hi => by
  obtain ⟨b, q, e, hl, c⟩ := h i (by rw [List.length_map]; exact hi)
  refine ⟨b, q, e, hl, c.trans ?_⟩
  show some (Value.int .i64 ((L.map fun k : Nat => (k : Int)).getD i 0)) = some (Value.int .i64 ((L.getD i 0 : Nat) : Int))
  rw [List.getD_eq_getElem?_getD, List.getD_eq_getElem?_getD, List.getElem?_map, List.getElem?_eq_getElem hi]
  rfl
set_option maxRecDepth 100000 in
set_option maxHeartbeats 40000000 in
theorem travelProof_any (r : Rnd) (oa : Option Addr) (ca : Nat) (off : Int) (bt : Nat) (w : World) (hR : TrpsAt w oa r.n r.t) (hT : TabAt 1 Lib.deBruijn64tab w) (h1 : 1 < w.heap.size) (hn63 : r.n ≤ 9223372036854775807) (hbits : bt < 65536) :
    Calls Tryd.prog 8 #[r.val oa ca, .int .i64 off, .int .u16 (bt : Nat)] w fun e w' => e = .returned (.bool true) ∧ Below w.heap.size w w' := by
  have I0 := Lib.hid (Vo.start (ca := ca) off hR hT h1)
  clear hR hT
  go_enter Tryd.func8, Tryd.ntmps8
  go_upto_region 1 with fail
  obtain ⟨gO, hG2⟩ : ∃ G, G = w.heap.size + 1 := ⟨_, rfl⟩
  rw [← hG2] at I0 ⊢
  obtain ⟨X2, hW⟩ : ∃ X, X = (w.alloc (.cells #[.int .i64 r.nb, .int .i64 r.nm, .int .i64 r.most, .slice oa r.n ca] 24)).alloc (.cells #[.int .i64 off] 3) := ⟨_, rfl⟩
  rw [← hW] at I0 ⊢
  obtain ⟨g, hG⟩ : ∃ G, G = w.heap.size := ⟨_, rfl⟩
  rw [← hG] at I0 ⊢
  replace I0 := Lib.hid (show Vo r w oa ca g gO off X2 by rw [hG]; rw [hG] at I0; exact I0.out)
  clear hG hW hG2
  obtain ⟨⟨c0, c1, c2, c3, c4⟩, c5, c6⟩ := I0.out.cells
  by_cases h18 : 18 < r.n
  · have z : decide (18 < (r.n : Int)) = true := by simp; omega
    have z2 : decide ((r.n : Int) > 18) = true := by simp; omega
    go_wp2_with fail
    refine (awake_any _ I0.out.v.tt I0.out.v.t1).mono ?_
    rintro e X3 ⟨rfl, hb⟩
    have HF := Lib.hid (I0.out.on hb).v.low
    go_wp2_with fail
    go_ret
    exact ⟨rfl, HF.out⟩
  have z : decide (18 < (r.n : Int)) = false := by simp; omega
  have z2 : decide ((r.n : Int) > 18) = false := by simp; omega
  have hn : r.n ≤ 1000000 := by omega
  go_wp2_with fail
  refine (fits_any r oa ca off _ hn I0.out.v.tt I0.out.v.t1 I0.out.v.tr).mono ?_
  rintro e X3 ⟨rfl, hb⟩
  have I1 := Lib.hid (I0.out.on hb)
  have HFB := Lib.hid (show r.fitsB off = (decide (r.err off = 0) && okT (r.D off)) from rfl)
  obtain ⟨q, hq⟩ : ∃ q, q = r.fitsB off := ⟨_, rfl⟩
  obtain ⟨er, her⟩ : ∃ q, q = r.err off := ⟨_, rfl⟩
  rw [← hq, ← her] at HFB ⊢
  have HER := Lib.hid her
  clear I0 c0 c1 c2 c3 c4 c5 c6 hb hq her z z2 h18
  obtain ⟨⟨c0, c1, c2, c3, c4⟩, c5, c6⟩ := I1.out.cells
  go_wp2_with fail
  refine (clash_any r oa ca off _ hn I1.out.v.tt I1.out.v.t1 I1.out.v.tr).mono ?_
  intro e X4 hcp
  obtain ⟨hb, hcp⟩ := hcp
  have I2 := Lib.hid (I1.out.on hb)
  clear I1 c0 c1 c2 c3 c4 c5 c6 hb
  rcases hcp with ⟨he, rfl⟩ | ⟨he, hall, rfl⟩ | ⟨he, best, hB, v, rfl, hown⟩
  · rw [← HER.out] at he ⊢
    obtain rfl : q = false := by rw [HFB.out, decide_eq_false he]; rfl
    have hq1 : (er != 0) = true := by simpa using he
    have hq2 : (er == er) = true := by simp
    go_wp2_with fail
    refine (awake_any _ I2.out.v.tt I2.out.v.t1).mono ?_
    rintro e X5 ⟨rfl, hb⟩
    have HF := Lib.hid (I2.out.on hb).v.low
    go_wp2_with fail
    go_ret
    exact ⟨rfl, HF.out⟩
  · have hv := (Rnd.err_zero he).1
    obtain rfl : er = 0 := HER.out.trans he
    obtain rfl : q = true := by rw [HFB.out]; exact hall _ (two_pred r.n)
    clear hall he hv
    go_wp2_with fail
    refine (awake_any _ I2.out.v.tt I2.out.v.t1).mono ?_
    rintro e X5 ⟨rfl, hb⟩
    have HF := Lib.hid (I2.out.on hb).v.low
    go_wp2_with fail
    go_ret
    exact ⟨rfl, HF.out⟩
  have hv := (Rnd.err_zero he).1
  obtain rfl : er = 0 := HER.out.trans he
  obtain rfl : q = false := by rw [HFB.out, best_none hv hB]; rfl
  have HE := Lib.hid he
  have HV := Lib.hid hv
  have HB := Lib.hid hB
  have HGB := Lib.hid (best_good hv hB).1
  have htwo := best_two hv hB
  have hn14 := (Rnd.valid_head hv).2.2.2
  have hlen := good_len HGB.out
  obtain ⟨lo, lc, rfl, hI, -⟩ := owns_list hown
  have HLI := Lib.hid (ints_map hI)
  have hlm : (memI best).length = (mem2 best).length := by simp [memI]
  rw [hlm]
  obtain ⟨L, hL⟩ : ∃ L, L = mem2 best := ⟨_, rfl⟩
  have HL := Lib.hid hL
  rw [← hL] at HGB htwo hlen HLI ⊢
  obtain ⟨ℓ, hℓ⟩ : ∃ ℓ, ℓ = L.length := ⟨_, rfl⟩
  have HLL := Lib.hid hℓ.symm
  rw [← hℓ] at htwo hlen HLI ⊢
  clear hown hI hlm hL hℓ he hv hB HER HFB hn63
  have HGM := Lib.hid (show ∀ k, k < ℓ → L.getD k 0 < r.n from fun k hk => HGB.out.2 _ (getD_mem (by rw [HLL.out]; exact hk)))
  have HGS := Lib.hid (show ∀ p, p + 1 < ℓ → L.getD p 0 < L.getD (p + 1) 0 from fun p hp => by
    have h9 := List.pairwise_iff_getElem.1 HGB.out.1 p (p + 1) (by rw [HLL.out]; omega) (by rw [HLL.out]; exact hp) (by omega)
    rw [List.getD_eq_getElem?_getD, List.getD_eq_getElem?_getD, List.getElem?_eq_getElem (by rw [HLL.out]; omega), List.getElem?_eq_getElem (by rw [HLL.out]; exact hp)]
    exact h9)
  have HPF := Lib.hid (fun (W : World) (but : Int) (M : List Nat) (mo : Option Addr) (mc : Nat) (ml : Nat) (hg : GoodL r.n M) (hl : M.length = ml) (hV : Vo r w oa ca g gO off W) (hMI : IntsAt W mo ml (fun i => ((M.getD i 0 : Nat) : Int))) => proof_any r oa ca off but g gO M mo mc ml W HE.out hg hl hV.v.b hV.o hMI hV.v.tr hV.v.tt hV.v.t1)
  have z1 : decide ((ℓ : Int) < 2) = false := by simp; omega
  go_wp2_with fail
  clear z1
  obtain ⟨wo, rfl⟩ : ∃ wo : World, wo = X4 := ⟨_, rfl⟩
  go_loopw [12] (fun v12 wr => ∃ i : Nat, i ≤ ℓ ∧ v12 = .int .i64 i ∧ Hid (Vo r w oa ca g gO off wr) ∧ Hid (IntsAt wr lo ℓ (fun i => ((L.getD i 0 : Nat) : Int)))) (fun i _ => ℓ - (intOf i).toNat)
  case atStart => exact ⟨0, by omega, rfl, I2, HLI⟩
  case round =>
    clear I2 HLI
    obtain ⟨i, hi, rfl, I2, HLI⟩ := hrel
    by_cases hlt : i < ℓ
    · as_aux_lemma =>
        have hd1 : decide ((i : Int) < (ℓ : Int)) = true := by simp; omega
        obtain ⟨bb, bo, e9, hbl, hbc⟩ := HLI.out i hlt
        subst e9
        have hmn := HGM.out i hlt
        simp only at hbc
        have x0 : (0 : Int) ≤ (i : Int) := by omega
        have x1 : (i : Int) < (ℓ : Int) := by omega
        by_cases hi0 : i = 0
        · obtain ⟨m, hm⟩ : ∃ m, m = L.getD i 0 := ⟨_, rfl⟩
          rw [← hm] at hbc hmn
          have g5 : decide ((i : Int) > 0) = false := decide_eq_false (by omega)
          have g6 : decide (0 < (i : Int)) = false := decide_eq_false (by omega)
          have g7 : decide (0 < i) = false := decide_eq_false (by omega)
          clear hm hi0
          have g1 : decide ((m : Int) < 0) = false := decide_eq_false (by omega)
          have g9 : decide (r.n ≤ m) = false := decide_eq_false (by omega)
          have g10 : decide (m < r.n) = true := decide_eq_true hmn
          have g2 : decide ((m : Int) ≥ (r.n : Int)) = false := by simp; omega
          have g3 : decide ((r.n : Int) ≤ (m : Int)) = false := by simp; omega
          go_upto_region 15 with fail
          have q0 : ∀ W : Aft wr, W.val.cell? ⟨bb, bo + i, none⟩ = some (.int .i64 (m : Nat)) := fun W => (W.below.cell (p := ⟨bb, bo + i, none⟩) hbl).trans hbc
          have q1 : ∀ W : Aft wr, bb < W.val.heap.size := fun W => Nat.lt_of_lt_of_le hbl W.below.size
          have q2 : ∀ W : Aft wr, W.val.cell? ⟨g, 3, none⟩ = some (.slice oa r.n ca) := fun W => (I2.out.v.b.below W.below).cell 3 rfl
          have q3 : ∀ W : Aft wr, g < W.val.heap.size := fun W => (I2.out.v.b.below W.below).lt
          clear hbc hbl
          refine wp_region_aft (by kernel_rfl) (by kernel_rfl) ?_
          repeat (go_big_quiet_step (fail))
          refine wpQuiet_nil ?_
          intro WA
          obtain ⟨wy, hwy⟩ : ∃ X, X = WA.val := ⟨_, rfl⟩
          have hby := WA.below
          rw [← hwy] at hby ⊢
          clear hwy WA
          have I3 := Lib.hid (I2.out.on hby)
          have HLI3 := Lib.hid (HLI.out.mono hby)
          clear q0 q1 q2 q3 hby I2 HLI
          go_wp2_with fail
          go_roundw
          case rel => exact ⟨i + 1, by omega, by go_num, I3, HLI3⟩
          case measure => simp [intOf]; omega
        · obtain ⟨p, hp1⟩ : ∃ p, i = p + 1 := ⟨i - 1, by omega⟩
          clear hi0
          obtain ⟨b2, o2, e8, hbl2, hbc2⟩ := HLI.out p (by omega)
          cases e8
          have hps := HGS.out p (by omega)
          rw [← hp1] at hps
          simp only at hbc2
          obtain ⟨m, hm⟩ : ∃ m, m = L.getD i 0 := ⟨_, rfl⟩
          obtain ⟨m2, hm2⟩ : ∃ m, m = L.getD p 0 := ⟨_, rfl⟩
          rw [← hm] at hbc hmn hps
          rw [← hm2] at hbc2 hps
          clear hm hm2
          have g1 : decide ((m : Int) < 0) = false := decide_eq_false (by omega)
          have g9 : decide (r.n ≤ m) = false := decide_eq_false (by omega)
          have g10 : decide (m < r.n) = true := decide_eq_true hmn
          have g2 : decide ((m : Int) ≥ (r.n : Int)) = false := by simp; omega
          have g3 : decide ((r.n : Int) ≤ (m : Int)) = false := by simp; omega
          have g4 : decide ((m : Int) ≤ (m2 : Int)) = false := by simp; omega
          have g11 : decide (m ≤ m2) = false := decide_eq_false (by omega)
          have g5 : decide ((i : Int) > 0) = true := by simp; omega
          have g6 : decide (0 < (i : Int)) = true := by simp; omega
          have g7 : decide (0 < i) = true := by simp; omega
          have g8 : (i : Int) - 1 = (p : Int) := by omega
          have x2 : (0 : Int) ≤ (p : Int) := by omega
          have x3 : (p : Int) < (ℓ : Int) := by omega
          clear hp1 hps
          go_upto_region 15 with fail
          have q0 : ∀ W : Aft wr, W.val.cell? ⟨bb, bo + i, none⟩ = some (.int .i64 (m : Nat)) := fun W => (W.below.cell (p := ⟨bb, bo + i, none⟩) hbl).trans hbc
          have q1 : ∀ W : Aft wr, bb < W.val.heap.size := fun W => Nat.lt_of_lt_of_le hbl W.below.size
          have q2 : ∀ W : Aft wr, W.val.cell? ⟨g, 3, none⟩ = some (.slice oa r.n ca) := fun W => (I2.out.v.b.below W.below).cell 3 rfl
          have q3 : ∀ W : Aft wr, g < W.val.heap.size := fun W => (I2.out.v.b.below W.below).lt
          have q4 : ∀ W : Aft wr, W.val.cell? ⟨bb, bo + p, none⟩ = some (.int .i64 (m2 : Nat)) := fun W => (W.below.cell (p := ⟨bb, bo + p, none⟩) hbl2).trans hbc2
          clear hbc hbl hbc2 hbl2
          refine wp_region_aft (by kernel_rfl) (by kernel_rfl) ?_
          repeat (go_big_quiet_step (fail))
          refine wpQuiet_nil ?_
          intro WA
          obtain ⟨wy, hwy⟩ : ∃ X, X = WA.val := ⟨_, rfl⟩
          have hby := WA.below
          rw [← hwy] at hby ⊢
          clear hwy WA
          have I3 := Lib.hid (I2.out.on hby)
          have HLI3 := Lib.hid (HLI.out.mono hby)
          clear q0 q1 q2 q3 q4 hby I2 HLI
          go_wp2_with fail
          go_roundw
          case rel => exact ⟨i + 1, by omega, by go_num, I3, HLI3⟩
          case measure => simp [intOf]; omega
    · obtain rfl : i = ℓ := by omega
      have hd1 : decide ((i : Int) < (i : Int)) = false := by simp
      go_wp2_with fail
      clear hd1 HGS
      obtain ⟨wo, rfl⟩ : ∃ wo : World, wo = wr := ⟨_, rfl⟩
      go_loopw [13] (fun v13 wr => ∃ j : Nat, j ≤ i ∧ v13 = .int .i64 j ∧ Hid (Vo r w oa ca g gO off wr) ∧ Hid (IntsAt wr lo i (fun i => ((L.getD i 0 : Nat) : Int)))) (fun j _ => i - (intOf j).toNat)
      case atStart => exact ⟨0, by omega, rfl, I2, HLI⟩
      case round =>
        clear I2 HLI
        obtain ⟨j, hj, rfl, I2, HLI⟩ := hrel
        by_cases hlt2 : j < i
        · have hd1 : decide ((j : Int) < (i : Int)) = true := by simp; omega
          have HBJ := Lib.hid (show badL r off (dropK L (j : Nat) i) = false by
            have h9 := all_but_one HV.out HB.out (j := j) (by rw [← HL.out, HLL.out]; exact hlt2)
            rw [← HL.out, HLL.out] at h9
            exact h9)
          go_wp2_with fail
          refine (HPF.out wr (j : Int) L lo lc i HGB.out HLL.out I2.out HLI.out).mono ?_
          rintro e w3 ⟨rfl, hb3⟩
          rw [HBJ.out]
          have I3 := Lib.hid (I2.out.on hb3)
          have HLI3 := Lib.hid (HLI.out.mono hb3)
          clear I2 HLI hb3
          go_wp2_with fail
          go_roundw
          case rel => exact ⟨j + 1, by omega, by go_num, I3, HLI3⟩
          case measure => simp [intOf]; omega
        · obtain rfl : j = i := by omega
          have hd1 : decide ((j : Int) < (j : Int)) = false := by simp
          go_wp2_with fail
          clear hd1
          obtain ⟨iR, hiR, hzR0, hzR1, hzR2⟩ := info_parts (P := Tryd.prog) (e := 3) (z := .int .i64 0) (size := 1) (bytes := 8) (by kernel_rfl)
          obtain ⟨wo, rfl⟩ : ∃ wo : World, wo = wr := ⟨_, rfl⟩
          go_loopw [14, 15] (fun v14 v15 wr => ∃ i : Nat, i ≤ r.n ∧ v15 = .int .i64 i ∧ Hid (wr.ownsRow wo.heap.size 3 1 v14 (othK bt i).length (listNews ((othK bt i).map fun k : Nat => (k : Int)))) ∧ Hid (Below wo.heap.size wo wr)) (fun _ i _ => r.n - (intOf i).toNat)
          case atStart => exact ⟨0, by omega, rfl, Lib.hid owns_none, Lib.hid (Below.refl _ _)⟩
          case round =>
            obtain ⟨i, hi, rfl, HOW, HBW⟩ := hrel
            have I3 := Lib.hid (I2.out.on HBW.out)
            have d3 := I3.out.v.b.cell 3 (v := .slice oa r.n ca) rfl
            have d4 := I3.out.v.b.lt
            have hol := othK_len bt i
            by_cases hlt3 : i < r.n
            · have hd1 : decide ((i : Int) < (r.n : Int)) = true := decide_eq_true (by omega)
              have HBT := Lib.hid (bit16 (i := i) hbits)
              cases hq : bt.testBit i
              · have HE := Lib.hid (othK_no hq)
                have hq2 : (bits BinOp.and IntKind.u16 ((bt : Int) / 2 ^ i) 1 == 1) = false := by rw [HBT.out, hq]
                have HOW2 := Lib.hid (show wr.ownsRow wo.heap.size 3 1 u14 (othK bt (i + 1)).length (listNews ((othK bt (i + 1)).map fun k : Nat => (k : Int))) by rw [HE.out]; exact HOW.out)
                clear hq HBT HE HOW I3
                go_wp2_with fail
                go_roundw
                case rel => exact ⟨i + 1, by omega, by go_num, HOW2, HBW⟩
                case measure => simp [intOf]; omega
              · have HE := Lib.hid (othK_yes hq)
                have hq2 : (bits BinOp.and IntKind.u16 ((bt : Int) / 2 ^ i) 1 == 1) = true := by rw [HBT.out, hq]
                have HN := Lib.hid (show listNews ((othK bt i).map fun k : Nat => (k : Int)) ++ [.int .i64 (i : Nat)] = listNews ((othK bt (i + 1)).map fun k : Nat => (k : Int)) by rw [HE.out, List.map_append, ← listNews_snoc]; rfl)
                have HNL := Lib.hid (show (othK bt (i + 1)).length = (othK bt i).length + 1 by rw [HE.out, List.length_append, List.length_singleton])
                obtain ⟨xs, hxs⟩ : ∃ xs, xs = listNews ((othK bt i).map fun k : Nat => (k : Int)) := ⟨_, rfl⟩
                obtain ⟨xl, hxl⟩ : ∃ xl, xl = (othK bt i).length := ⟨_, rfl⟩
                rw [← hxs] at HN HOW
                rw [← hxl] at HNL HOW hol
                clear hxs hxl hq HBT HE I3
                obtain ⟨oS, cS, rfl, -⟩ := owns_form HOW.out
                have hls := HBW.out.size
                have hxl14 : xl ≤ 14 := by omega
                go_wp2_with (at_builtin; refine wpList_append_gen rfl (.tmp 133) (.tmp 135) _ rfl wo.heap.size 3 iR _ 1 8 Tryd.underlying37 hiR hzR0 hzR1 hzR2 rfl (by omega) (.slice oS xl cS) xl xs rfl (some ⟨wr.heap.size, 0, none⟩) 1 1 [.int .i64 (i : Nat)] rfl (HOW.out.alloc _) (fun e9 => by cases e9) rfl (fun ad9 e9 j9 u9 hu9 => by cases e9; exact news_blk1 (e := 3) (heap_new rfl) hu9) (by simp [Value.oneCell']) (by simp only [maxLen]; omega) (by omega) (by simp; omega) ?_; intro vS wS hownS hgrowS)
                have HLS := Lib.hid (show Below wo.heap.size wo wS from HBW.out.trans ((below_alloc1 wr (.cells #[.int .i64 (i : Nat)] 3)).mono hls |>.trans (below_row HOW.out hgrowS hls)))
                rw [HN.out, ← HNL.out] at hownS
                have HOS := Lib.hid hownS
                clear hownS hgrowS HOW HBW HN HNL
                go_roundw
                case rel => exact ⟨i + 1, by omega, by go_num, HOS, HLS⟩
                case measure => simp [intOf]; omega
            · obtain rfl : i = r.n := by omega
              have hd1 : decide ((r.n : Int) < (r.n : Int)) = false := by simp
              have HOW9 := Lib.hid (show wr.ownsRow wo.heap.size 3 1 u14 ((othK bt r.n).map fun k : Nat => (k : Int)).length (listNews ((othK bt r.n).map fun k : Nat => (k : Int))) by rw [List.length_map]; exact HOW.out)
              obtain ⟨mo, mc, rfl, hMI, -⟩ := owns_list HOW9.out
              have HMI := Lib.hid (ints_map hMI)
              rw [List.length_map]
              have HMG := Lib.hid (othK_good bt r.n)
              obtain ⟨M, hM⟩ : ∃ M, M = othK bt r.n := ⟨_, rfl⟩
              rw [← hM] at HMI HMG hol ⊢
              obtain ⟨ml, hml⟩ : ∃ ml, ml = M.length := ⟨_, rfl⟩
              have HML := Lib.hid hml.symm
              rw [← hml] at HMI hol ⊢
              have HLI3 := Lib.hid (HLI.out.mono HBW.out)
              clear hM hml HOW HOW9 hMI I2 HLI HBW
              have HD1 := Lib.hid (show badL r off (dropK L (-1) j) = true by
                rw [← HLL.out, dropK_all L _ (Nat.le_refl _), List.take_length, HL.out]; exact (best_good HV.out HB.out).2)
              have HD2 := Lib.hid (show dropK M (-1) ml = M by rw [← HML.out, dropK_all M _ (Nat.le_refl _), List.take_length])
              have HFW := Lib.hid (show ml < j → badL r off M = false from fun h => fewer_fine HV.out HB.out HMG.out (by rw [HML.out, ← HL.out, HLL.out]; exact h))
              have HFO := Lib.hid (show ml = j → badL r off M = true → ∀ i, i < ml → (∀ c, c < i → M.getD c 0 = L.getD c 0) → M.getD i 0 ≠ L.getD i 0 → L.getD i 0 < M.getD i 0 from fun h hb i hi hs hne => by
                have h9 := first_other HV.out HB.out HMG.out (by rw [HML.out, ← HL.out, HLL.out]; exact h) hb (i := i) (by rw [HML.out]; exact hi)
                rw [← HL.out] at h9
                exact h9 hs hne)
              go_wp2_with fail
              refine (HPF.out wr (-1) L lo lc j HGB.out HLL.out I3.out HLI3.out).mono ?_
              rintro e w3 ⟨rfl, hb3⟩
              rw [HD1.out]
              have I4 := Lib.hid (I3.out.on hb3)
              have HLI4 := Lib.hid (HLI3.out.mono hb3)
              have HMI4 := Lib.hid (HMI.out.mono hb3)
              clear I3 HLI3 HMI hb3 HD1 d3 d4
              by_cases h5 : ml < j
              · have e1 : decide ((ml : Int) < (j : Int)) = true := decide_eq_true (by omega)
                have e2 : decide (ml < j) = true := decide_eq_true h5
                have e3 : ((ml : Int) == (j : Int)) = false := by simp; omega
                have e4 : (ml == j) = false := by simp; omega
                have HB9 := Lib.hid (HFW.out h5)
                clear h5 HFW HFO
                go_wp2_with fail
                refine (HPF.out w3 (-1) M mo mc ml HMG.out HML.out I4.out HMI4.out).mono ?_
                rintro e w4 ⟨rfl, hb4⟩
                rw [HD2.out, HB9.out]
                have I5 := Lib.hid (I4.out.on hb4)
                clear I4 HLI4 HMI4 hb4
                go_wp2_with fail
                refine (awake_any _ I5.out.v.tt I5.out.v.t1).mono ?_
                rintro e w9 ⟨rfl, hb9⟩
                have HF := Lib.hid (I5.out.on hb9).v.low
                go_wp2_with fail
                go_ret
                exact ⟨rfl, HF.out⟩
              · have e1 : decide ((ml : Int) < (j : Int)) = false := decide_eq_false (by omega)
                have e2 : decide (ml < j) = false := decide_eq_false h5
                by_cases h6 : ml = j
                · have e3 : ((ml : Int) == (j : Int)) = true := by simp [h6]
                  have e4 : (ml == j) = true := by simp [h6]
                  have HFP := Lib.hid (HFO.out h6)
                  have HMJ := Lib.hid h6
                  clear h5 h6 HFW HFO
                  go_wp2_with fail
                  refine (HPF.out w3 (-1) M mo mc ml HMG.out HML.out I4.out HMI4.out).mono ?_
                  rintro e w4 ⟨rfl, hb4⟩
                  rw [HD2.out]
                  have I5 := Lib.hid (I4.out.on hb4)
                  have HLI5 := Lib.hid (HLI4.out.mono hb4)
                  have HMI5 := Lib.hid (HMI4.out.mono hb4)
                  clear I4 HLI4 HMI4 hb4
                  cases hbM : badL r off M
                  · clear hbM HFP
                    go_wp2_with fail
                    refine (awake_any _ I5.out.v.tt I5.out.v.t1).mono ?_
                    rintro e w9 ⟨rfl, hb9⟩
                    have HF := Lib.hid (I5.out.on hb9).v.low
                    go_wp2_with fail
                    go_ret
                    exact ⟨rfl, HF.out⟩
                  · have HFQ := Lib.hid (HFP.out hbM)
                    clear hbM HFP
                    go_wp2_with fail
                    clear e1 e2 e3 e4
                    obtain ⟨wo, rfl⟩ : ∃ wo : World, wo = w4 := ⟨_, rfl⟩
                    go_loopw [16] (fun v16 wr => ∃ i : Nat, i ≤ j ∧ v16 = .int .i64 i ∧ Hid (Vo r w oa ca g gO off wr) ∧ Hid (IntsAt wr lo j (fun i => ((L.getD i 0 : Nat) : Int))) ∧ Hid (IntsAt wr mo ml (fun i => ((M.getD i 0 : Nat) : Int))) ∧ Hid (∀ c, c < i → M.getD c 0 = L.getD c 0)) (fun i _ => j - (intOf i).toNat)
                    case atStart => exact ⟨0, by omega, rfl, I5, HLI5, HMI5, Lib.hid fun c hc => by omega⟩
                    case round =>
                      clear I5 HLI5 HMI5
                      obtain ⟨i, hi, rfl, I5, HLI5, HMI5, HSM⟩ := hrel
                      by_cases hlt4 : i < j
                      · have hd1 : decide ((i : Int) < (j : Int)) = true := decide_eq_true (by omega)
                        have hlm : i < ml := by have := HMJ.out; omega
                        obtain ⟨bb, bo, e9, hbl, hbc⟩ := HLI5.out i hlt4
                        subst e9
                        obtain ⟨mb, mq, e9, hml, hmc⟩ := HMI5.out i hlm
                        subst e9
                        simp only at hbc hmc
                        have HFR := Lib.hid (HFQ.out i hlm HSM.out)
                        have HSN := Lib.hid (show M.getD i 0 = L.getD i 0 → ∀ c, c < i + 1 → M.getD c 0 = L.getD c 0 from fun h c hc => by
                          by_cases h9 : c = i
                          · subst h9; exact h
                          · exact HSM.out c (by omega))
                        obtain ⟨x, hx⟩ : ∃ x, x = L.getD i 0 := ⟨_, rfl⟩
                        obtain ⟨y, hy⟩ : ∃ x, x = M.getD i 0 := ⟨_, rfl⟩
                        rw [← hx] at hbc HFR HSN
                        rw [← hy] at hmc HFR HSN
                        clear hx hy HSM
                        have x0 : (0 : Int) ≤ (i : Int) := by omega
                        have x1 : (i : Int) < (j : Int) := by omega
                        have x2 : (i : Int) < (ml : Int) := by omega
                        have q0 : ∀ W : Aft wr, W.val.cell? ⟨bb, bo + i, none⟩ = some (.int .i64 (x : Nat)) := fun W => (W.below.cell (p := ⟨bb, bo + i, none⟩) hbl).trans hbc
                        have q1 : ∀ W : Aft wr, bb < W.val.heap.size := fun W => Nat.lt_of_lt_of_le hbl W.below.size
                        have q2 : ∀ W : Aft wr, W.val.cell? ⟨mb, mq + i, none⟩ = some (.int .i64 (y : Nat)) := fun W => (W.below.cell (p := ⟨mb, mq + i, none⟩) hml).trans hmc
                        have q3 : ∀ W : Aft wr, mb < W.val.heap.size := fun W => Nat.lt_of_lt_of_le hml W.below.size
                        have HC9 := Lib.hid (And.intro (And.intro hbl hbc) (And.intro hml hmc))
                        clear hbl hbc hml hmc
                        by_cases hxy : y = x
                        · have e1 : ((y : Int) != (x : Int)) = false := by simp [hxy]
                          have e2 : (y != x) = false := by simp [hxy]
                          have HS2 := Lib.hid (HSN.out hxy)
                          clear hxy HSN HFR
                          go_upto_region 34 with fail
                          refine wp_region_aft (by kernel_rfl) (by kernel_rfl) ?_
                          repeat (go_big_quiet_step (fail))
                          refine wpQuiet_nil ?_
                          intro WA
                          obtain ⟨wy, hwy⟩ : ∃ X, X = WA.val := ⟨_, rfl⟩
                          have hby := WA.below
                          rw [← hwy] at hby ⊢
                          clear hwy WA
                          have I6 := Lib.hid (I5.out.on hby)
                          have HLI6 := Lib.hid (HLI5.out.mono hby)
                          have HMI6 := Lib.hid (HMI5.out.mono hby)
                          clear q0 q1 q2 q3 HC9 hby I5 HLI5 HMI5
                          go_wp2_with fail
                          go_roundw
                          case rel => exact ⟨i + 1, by omega, by go_num, I6, HLI6, HMI6, HS2⟩
                          case measure => simp [intOf]; omega
                        · have e1 : ((y : Int) != (x : Int)) = true := by simp; omega
                          have e2 : (y != x) = true := by simp; omega
                          have hxl := HFR.out hxy
                          have e3 : decide ((x : Int) < (y : Int)) = true := decide_eq_true (by omega)
                          have e4 : decide (x < y) = true := decide_eq_true hxl
                          clear hxy HSN HFR hxl
                          go_upto_region 34 with fail
                          refine wp_region_aft (by kernel_rfl) (by kernel_rfl) ?_
                          repeat (go_big_quiet_step (fail))
                          refine wpQuiet_nil ?_
                          intro WA
                          obtain ⟨wy, hwy⟩ : ∃ X, X = WA.val := ⟨_, rfl⟩
                          have hby := WA.below
                          rw [← hwy] at hby ⊢
                          clear hwy WA
                          have I6 := Lib.hid (I5.out.on hby)
                          have HD9 := Lib.hid hby
                          clear q0 q1 q2 q3 hby I5 HLI5 HMI5
                          go_upto_region 35 with fail
                          have q0 : ∀ W : Aft wy, W.val.cell? ⟨bb, bo + i, none⟩ = some (.int .i64 (x : Nat)) := fun W => ((HD9.out.trans (W.below.mono HD9.out.size)).cell (p := ⟨bb, bo + i, none⟩) HC9.out.1.1).trans HC9.out.1.2
                          have q1 : ∀ W : Aft wy, bb < W.val.heap.size := fun W => Nat.lt_of_lt_of_le HC9.out.1.1 (HD9.out.trans (W.below.mono HD9.out.size)).size
                          have q2 : ∀ W : Aft wy, W.val.cell? ⟨mb, mq + i, none⟩ = some (.int .i64 (y : Nat)) := fun W => ((HD9.out.trans (W.below.mono HD9.out.size)).cell (p := ⟨mb, mq + i, none⟩) HC9.out.2.1).trans HC9.out.2.2
                          have q3 : ∀ W : Aft wy, mb < W.val.heap.size := fun W => Nat.lt_of_lt_of_le HC9.out.2.1 (HD9.out.trans (W.below.mono HD9.out.size)).size
                          have HAW := Lib.hid (fun (W : Aft wy) => awake_any W.val (tab_below I6.out.v.tt I6.out.v.t1 W.below) (Nat.lt_of_lt_of_le I6.out.v.t1 W.below.size))
                          refine wp_region_aft (by kernel_rfl) (by kernel_rfl) ?_
                          repeat (go_big_quiet_step ((go_at_call 11; exact aft_call (HAW.out _))))
                          refine wpQuiet_nil ?_
                          intro WA
                          obtain ⟨wy, hwy⟩ : ∃ X, X = WA.val := ⟨_, rfl⟩
                          have hby := WA.below
                          rw [← hwy] at hby ⊢
                          clear hwy WA
                          have HF := Lib.hid (I6.out.on hby).v.low
                          clear q0 q1 q2 q3 hby HAW
                          go_wp2_with fail
                          go_ret
                          exact ⟨rfl, HF.out⟩
                      · obtain rfl : i = j := by omega
                        have hd1 : decide ((i : Int) < (i : Int)) = false := by simp
                        go_wp2_with fail
                        refine (awake_any _ I5.out.v.tt I5.out.v.t1).mono ?_
                        rintro e w9 ⟨rfl, hb9⟩
                        have HF := Lib.hid (I5.out.on hb9).v.low
                        go_wp2_with fail
                        go_ret
                        exact ⟨rfl, HF.out⟩
                · have e3 : ((ml : Int) == (j : Int)) = false := by simp; omega
                  have e4 : (ml == j) = false := by simp; omega
                  have I5 := I4
                  clear I4 HLI4 HMI4 h5 h6
                  go_wp2_with fail
                  refine (awake_any _ I5.out.v.tt I5.out.v.t1).mono ?_
                  rintro e w9 ⟨rfl, hb9⟩
                  have HF := Lib.hid (I5.out.on hb9).v.low
                  go_wp2_with fail
                  go_ret
                  exact ⟨rfl, HF.out⟩
end Go.Proofs.YtldodmfmibeoiaaDoor
