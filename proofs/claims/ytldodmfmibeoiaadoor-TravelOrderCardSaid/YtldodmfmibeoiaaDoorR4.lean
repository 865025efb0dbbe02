/- Travel: the document's Fits and Convict. -/
import Derived.Test.YtldodmfmibeoiaaDoorR3
namespace Go.Proofs.YtldodmfmibeoiaaDoor
open Go.RowKit
theorem fitsW_self (r : Rnd) (off : Int) : FitsW r off r.n r.t = okT (r.D off) := rfl
theorem sub_self (r : Rnd) : r.sub r.n r.t = r := rfl
set_option maxRecDepth 100000 in
set_option maxHeartbeats 8000000 in
theorem dfits_any (r : Rnd) (oa : Option Addr) (ca : Nat) (off : Int) (w : World) (hn : r.n ≤ 1000000) (hA : TrpsAt w oa r.n r.t) :
    Calls Tryd.prog 13 #[r.val oa ca, .int .i64 off] w fun e w' => e = .returned (.tuple #[.bool (r.fitsB off), .int .i64 (r.err off)]) ∧ Below w.heap.size w w' := by
  have HA := Lib.hid hA
  clear hA
  go_enter Tryd.func13, Tryd.ntmps13
  go_wp2_with fail
  have hb0 := below_alloc1 w (.cells #[.int .i64 r.nb, .int .i64 r.nm, .int .i64 r.most, .slice oa r.n ca] 24)
  have hB := Box.new (g := w.heap.size) #[.int .i64 r.nb, .int .i64 r.nm, .int .i64 r.most, .slice oa r.n ca] 24 w rfl
  obtain ⟨W, hW⟩ : ∃ X, X = w.alloc (.cells #[.int .i64 r.nb, .int .i64 r.nm, .int .i64 r.most, .slice oa r.n ca] 24) := ⟨_, rfl⟩
  rw [← hW] at hb0 hB ⊢
  clear hW
  obtain ⟨gr, hgr⟩ : ∃ G, G = w.heap.size := ⟨_, rfl⟩
  rw [← hgr] at hB ⊢
  clear hgr
  refine (start_any r oa ca off _ hn (HA.out.mono hb0)).mono ?_
  rintro e w1 ⟨rfl, hb1⟩
  have HB := Lib.hid (hB.below hb1)
  have HL := Lib.hid (hb0.trans (hb1.mono hb0.size))
  have HE := Lib.hid (show r.fitsB off = (decide (r.err off = 0) && okT (r.D off)) from rfl)
  clear hB hb1 hb0
  by_cases he : r.err off = 0
  · rw [he]
    have HV := Lib.hid (Rnd.err_zero he).1
    have HE0 := Lib.hid he
    have HQ := Lib.hid (show r.fitsB off = okT (r.D off) by rw [HE.out, decide_eq_true he]; rfl)
    clear he
    obtain ⟨q, hq⟩ : ∃ q, q = okT (r.D off) := ⟨_, rfl⟩
    have HC := Lib.hid (show FitsW r off r.n r.t = q by rw [fitsW_self]; exact hq.symm)
    rw [← hq] at HQ
    clear hq
    have b0 := HB.out.cell 0 (v := .int .i64 r.nb) rfl
    have b1 := HB.out.cell 1 (v := .int .i64 r.nm) rfl
    have b2 := HB.out.cell 2 (v := .int .i64 r.most) rfl
    have b3 := HB.out.cell 3 (v := .slice oa r.n ca) rfl
    have b4 := HB.out.lt
    go_wp2_with fail
    refine (fitsW_any r oa ca off oa r.n ca r.t w1 HV.out (HA.out.mono HL.out)).mono ?_
    rintro e w2 ⟨rfl, hb2⟩
    rw [HC.out]
    have HP := Lib.hid (HL.out.trans (hb2.mono HL.out.size))
    clear hb2
    go_wp2_with fail
    refine bodyPost_ret (v := .tuple #[.bool q, .int .i64 0]) (by simp [results, Tryd.results13, go_sem]) rfl ⟨by rw [HQ.out, HE0.out], HP.out⟩
  · have hq : (r.err off != 0) = true := by simpa using he
    have hq2 : (r.err off == 0) = false := by simpa using he
    have HQ := Lib.hid (show r.fitsB off = false by rw [HE.out, decide_eq_false he]; rfl)
    obtain ⟨er, her⟩ : ∃ x, x = r.err off := ⟨_, rfl⟩
    rw [← her] at he hq hq2 ⊢
    have HER := Lib.hid her
    clear her
    go_wp2
    refine bodyPost_ret (v := .tuple #[.bool false, .int .i64 er]) (by simp [results, Tryd.results13, go_sem]) rfl ⟨by rw [HQ.out, HER.out], HL.out⟩
/-- the last bench that fits, or 0 -/
def lastS (l : List Nat) : Int := ((l.getLast?.getD 0 : Nat) : Int)
theorem lastS_snoc (l : List Nat) (k : Nat) : lastS (l ++ [k]) = (k : Int) := by simp [lastS]
set_option maxRecDepth 100000 in
set_option maxHeartbeats 8000000 in
theorem dconvict_any (r : Rnd) (oa : Option Addr) (ca : Nat) (w : World) (hn : r.n ≤ 1000000) (hA : TrpsAt w oa r.n r.t) :
    Calls Tryd.prog 15 #[r.val oa ca] w fun e w' => e = .returned (.tuple #[.int .i64 r.convict.1, .int .i64 r.convict.2]) ∧ Below w.heap.size w w' := by
  have HA := Lib.hid hA
  clear hA
  go_enter Tryd.func15, Tryd.ntmps15
  go_wp2_with fail
  have hb0 := below_alloc1 w (.cells #[.int .i64 r.nb, .int .i64 r.nm, .int .i64 r.most, .slice oa r.n ca] 24)
  have hB := Box.new (g := w.heap.size) #[.int .i64 r.nb, .int .i64 r.nm, .int .i64 r.most, .slice oa r.n ca] 24 w rfl
  obtain ⟨W, hW⟩ : ∃ X, X = w.alloc (.cells #[.int .i64 r.nb, .int .i64 r.nm, .int .i64 r.most, .slice oa r.n ca] 24) := ⟨_, rfl⟩
  rw [← hW] at hb0 hB ⊢
  clear hW
  obtain ⟨gr, hgr⟩ : ∃ G, G = w.heap.size := ⟨_, rfl⟩
  rw [← hgr] at hB ⊢
  clear hgr
  refine (start_any r oa ca (-1) _ hn (HA.out.mono hb0)).mono ?_
  rintro e w1 ⟨rfl, hb1⟩
  have HB := Lib.hid (hB.below hb1)
  have HL := Lib.hid (hb0.trans (hb1.mono hb0.size))
  have HE := Lib.hid (show r.convict = if r.err (-1) ≠ 0 then (0, r.err (-1)) else if okT (r.D (-1)) = true then (0, 4) else pickS (r.susp r.nb.toNat) from rfl)
  clear hB hb1 hb0
  by_cases he : r.err (-1) = 0
  · rw [he]
    have hv := (Rnd.err_zero he).1
    have hh := Rnd.valid_head hv
    have HV := Lib.hid hv
    have HE2 := Lib.hid (show r.convict = if okT (r.D (-1)) = true then (0, 4) else pickS (r.susp r.nb.toNat) by rw [HE.out, if_neg (by simpa using he)])
    have x1 := hh.1.1
    have x2 := hh.1.2
    clear he hv hh HE
    obtain ⟨q, hq⟩ : ∃ q, q = okT (r.D (-1)) := ⟨_, rfl⟩
    have HC := Lib.hid (show FitsW r (-1) r.n r.t = q by rw [fitsW_self]; exact hq.symm)
    rw [← hq] at HE2
    clear hq
    have b0 := HB.out.cell 0 (v := .int .i64 r.nb) rfl
    have b1 := HB.out.cell 1 (v := .int .i64 r.nm) rfl
    have b2 := HB.out.cell 2 (v := .int .i64 r.most) rfl
    have b3 := HB.out.cell 3 (v := .slice oa r.n ca) rfl
    have b4 := HB.out.lt
    go_wp2_with fail
    refine (fitsW_any r oa ca (-1) oa r.n ca r.t w1 HV.out (HA.out.mono HL.out)).mono ?_
    rintro e w2 ⟨rfl, hb2⟩
    rw [HC.out]
    have HP := Lib.hid (HL.out.trans (hb2.mono HL.out.size))
    have HB2 := Lib.hid (HB.out.below hb2)
    clear hb2 b0 b1 b2 b3 b4 HL HB
    cases q
    case true =>
      have HX := Lib.hid (show r.convict = (0, 4) by rw [HE2.out]; rfl)
      go_wp2_with fail
      refine bodyPost_ret (v := .tuple #[.int .i64 0, .int .i64 4]) (by simp [results, Tryd.results15, go_sem]) rfl ⟨by rw [HX.out], HP.out⟩
    have HX := Lib.hid (show r.convict = pickS (r.susp r.nb.toNat) by rw [HE2.out]; rfl)
    clear HE2
    obtain ⟨nb, hnb⟩ : ∃ nb : Nat, nb = r.nb.toNat := ⟨_, rfl⟩
    have HNB := Lib.hid (show r.nb = nb by omega)
    rw [← hnb] at HX
    have hnb6 : nb ≤ 6 := by omega
    clear hnb x1 x2
    rw [HNB.out] at HB2
    go_wp2_with fail
    obtain ⟨wo, rfl⟩ : ∃ wo : World, wo = w2 := ⟨_, rfl⟩
    go_loopw [5, 6, 7] (fun v5 v6 v7 wr => ∃ k : Nat, k ≤ nb ∧ v5 = .int .i64 (lastS (r.susp k)) ∧ v6 = .int .i64 ((r.susp k).length : Nat) ∧ v7 = .int .i64 k ∧ Hid (Below w.heap.size w wr) ∧ Hid (Box gr #[.int .i64 nb, .int .i64 r.nm, .int .i64 r.most, .slice oa r.n ca] 24 wr)) (fun _ _ i _ => nb - (intOf i).toNat)
    case atStart => exact ⟨0, by omega, rfl, rfl, rfl, HP, HB2⟩
    case round =>
      clear HP HB2
      obtain ⟨k, hk, rfl, rfl, rfl, HL, HB⟩ := hrel
      have hsl := r.susp_len k
      by_cases hlt : k < nb
      · have b0 := HB.out.cell 0 (v := .int .i64 nb) rfl
        have b1 := HB.out.cell 1 (v := .int .i64 r.nm) rfl
        have b2 := HB.out.cell 2 (v := .int .i64 r.most) rfl
        have b3 := HB.out.cell 3 (v := .slice oa r.n ca) rfl
        have b4 := HB.out.lt
        have HVAL := Lib.hid (show r.val oa ca = .agg #[.int .i64 nb, .int .i64 r.nm, .int .i64 r.most, .slice oa r.n ca] by rw [← HNB.out])
        have HCA := Lib.hid (by have h9 := fitsW_any r oa ca (k : Int) oa r.n ca r.t wr HV.out (HA.out.mono HL.out); rw [HVAL.out] at h9; exact h9)
        obtain ⟨q, hq⟩ : ∃ q, q = okT (r.D (k : Nat)) := ⟨_, rfl⟩
        have HC := Lib.hid (show FitsW r (k : Int) r.n r.t = q by rw [fitsW_self]; exact hq.symm)
        have HSY := Lib.hid (fun (h : q = true) => show r.susp (k + 1) = r.susp k ++ [k] from Rnd.susp_some (hq.symm.trans h))
        have HSN := Lib.hid (fun (h : q = false) => show r.susp (k + 1) = r.susp k from Rnd.susp_none (hq.symm.trans h))
        clear hq
        obtain ⟨L, hL⟩ : ∃ L, L = r.susp k := ⟨_, rfl⟩
        rw [← hL] at HSY HSN hsl ⊢
        clear hL
        go_wp2_with fail
        refine HCA.out.mono ?_
        rintro e w3 ⟨rfl, hb3⟩
        rw [HC.out]
        have HLZ := Lib.hid (HL.out.trans (hb3.mono HL.out.size))
        have HBZ := Lib.hid (HB.out.below hb3)
        clear HL HB hb3 b0 b1 b2 b3 b4 HCA HC
        cases q
        · have HS2 := Lib.hid (HSN.out rfl)
          clear HSN HSY
          go_wp2_with fail
          go_roundw
          case rel => exact ⟨k + 1, by omega, by rw [HS2.out], by rw [HS2.out], by go_num, HLZ, HBZ⟩
          case measure => simp [intOf]; omega
        · have HS2 := Lib.hid (HSY.out rfl)
          clear HSN HSY
          go_wp2_with fail
          go_roundw
          case rel => exact ⟨k + 1, by omega, by rw [HS2.out, lastS_snoc], by rw [HS2.out, List.length_append, List.length_singleton]; go_num, by go_num, HLZ, HBZ⟩
          case measure => simp [intOf]; omega
      · obtain rfl : k = nb := by omega
        have b0 := HB.out.cell 0 (v := .int .i64 k) rfl
        have b4 := HB.out.lt
        obtain ⟨L, hL⟩ : ∃ L, L = r.susp k := ⟨_, rfl⟩
        rw [← hL] at HX hsl ⊢
        clear hL
        match L, HX, hsl with
        | [], HX, hsl =>
          rw [show lastS [] = 0 from rfl, show (([] : List Nat).length : Int) = 0 from rfl]
          clear hsl
          go_wp2_with fail
          refine bodyPost_ret (v := .tuple #[.int .i64 0, .int .i64 11]) (by simp [results, Tryd.results15, go_sem]) rfl ⟨by rw [HX.out]; rfl, HL.out⟩
        | [b], HX, hsl =>
          rw [show lastS [b] = (b : Int) from rfl, show (([b] : List Nat).length : Int) = 1 from rfl]
          clear hsl
          go_wp2_with fail
          refine bodyPost_ret (v := .tuple #[.int .i64 b, .int .i64 0]) (by simp [results, Tryd.results15, go_sem]) rfl ⟨by rw [HX.out]; rfl, HL.out⟩
        | a :: b :: l, HX, hsl =>
          obtain ⟨v, hv⟩ : ∃ v, v = lastS (a :: b :: l) := ⟨_, rfl⟩
          obtain ⟨m, hm⟩ : ∃ m : Nat, m = (a :: b :: l).length := ⟨_, rfl⟩
          have hm2 : 2 ≤ m := by rw [hm]; simp
          rw [← hv, ← hm]
          rw [← hm] at hsl
          have z1 : ((m : Int) == 0) = false := by simp; omega
          have z2 : decide ((m : Int) > 1) = true := by simp; omega
          have z3 : decide (1 < (m : Int)) = true := by simp; omega
          clear hv hm
          go_wp2_with fail
          refine bodyPost_ret (v := .tuple #[.int .i64 0, .int .i64 12]) (by simp [results, Tryd.results15, go_sem]) rfl ⟨by rw [HX.out]; rfl, HL.out⟩
  · have hq : (r.err (-1) != 0) = true := by simpa using he
    have hq2 : (r.err (-1) == 0) = false := by simpa using he
    have HQ := Lib.hid (show r.convict = (0, r.err (-1)) by rw [HE.out, if_pos he])
    obtain ⟨er, her⟩ : ∃ x, x = r.err (-1) := ⟨_, rfl⟩
    rw [← her] at he hq hq2 HQ ⊢
    clear her
    go_wp2
    refine bodyPost_ret (v := .tuple #[.int .i64 0, .int .i64 er]) (by simp [results, Tryd.results15, go_sem]) rfl ⟨by rw [HQ.out], HL.out⟩
end Go.Proofs.YtldodmfmibeoiaaDoor
