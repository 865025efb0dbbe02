/- Zone: ZoneSums returns true. -/
import Derived.Test.YtipnaeijbbbdoaaL0
namespace Go.Proofs.Ytipnaeijbbbdoaa
open Go.RowKit
set_option maxRecDepth 100000 in
set_option maxHeartbeats 16000000 in
theorem zoneSums_any (oa : Option Addr) (n ca : Nat) (z : Nat → Zon) (w : World) (hA : ZonsAt w oa n z) :
    Calls Try.prog 7 #[.slice oa n ca] w fun e w' => e = .returned (.bool true) ∧ Below w.heap.size w w' := by
  by_cases h16 : 16 < n
  · go_enter Try.func7, Try.ntmps7
    go_wp2_with fail
    refine (awake_any _).mono ?_
    rintro e w1 ⟨rfl, hb⟩
    go_wp2_with fail
    go_ret
    exact ⟨rfl, hb⟩
  · have hn : n ≤ 1000000 := by omega
    have hn16 : n ≤ 16 := by omega
    have HA := Lib.hid (fun (V : World) (hV : Below w.heap.size w V) => hA.mono hV)
    clear h16 hA
    have HO := Lib.hid (fun (V : World) (hV : Below w.heap.size w V) => own_any oa n ca z V hn (HA.out V hV))
    have HLS := Lib.hid (fun (V : World) (hV : Below w.heap.size w V) => losses_any oa n ca z V hn (HA.out V hV))
    have HWR := Lib.hid (fun (V : World) (hV : Below w.heap.size w V) => wrong_any oa n ca z V hn (HA.out V hV))
    have HZS := Lib.hid (fun (V : World) (hV : Below w.heap.size w V) => zones_any oa n ca z V hn (HA.out V hV))
    go_enter Try.func7, Try.ntmps7
    go_wp2_with fail
    refine (HO.out _ (Below.refl _ _)).mono ?_
    intro e w1 hp
    cases hlb : listB n z
    · obtain ⟨rfl, hb⟩ := own_no hp hlb
      have HB := Lib.hid hb
      have HLB := Lib.hid hlb
      clear hp hb hlb HO
      go_wp2_with fail
      refine (HLS.out _ HB.out).mono ?_
      intro e w2 hp
      obtain ⟨rfl, hb⟩ := loss_no hp HLB.out
      replace HB := Lib.hid (HB.out.trans (hb.mono HB.out.size))
      clear hp hb HLS
      go_wp2_with fail
      refine (HWR.out _ HB.out).mono ?_
      intro e w3 hp
      obtain ⟨rfl, hb⟩ := wrong_no hp HLB.out
      replace HB := Lib.hid (HB.out.trans (hb.mono HB.out.size))
      clear hp hb HWR
      go_wp2_with fail
      refine (awake_any _).mono ?_
      rintro e w4 ⟨rfl, hb⟩
      replace HB := Lib.hid (HB.out.trans (hb.mono HB.out.size))
      clear hb
      go_wp2_with fail
      go_ret
      exact ⟨rfl, HB.out⟩
    · obtain ⟨hb, oA, cA, rfl, hsa, -⟩ := own_yes hp hlb
      have HB := Lib.hid hb
      have HSA := Lib.hid hsa
      have HLB := Lib.hid hlb
      obtain ⟨hn1, hn2, hz, hok⟩ := listB_spec hlb
      have HTR := Lib.hid hz
      have HOK := Lib.hid hok
      clear hp hb hsa hlb HO hz hok
      go_wp2_with fail
      refine (HLS.out _ HB.out).mono ?_
      intro e w2 hp
      by_cases hall : AllR z n
      · obtain ⟨hb, oB, cB, rfl, hsb, -⟩ := loss_all hp HLB.out hall
        replace HB := Lib.hid (HB.out.trans (hb.mono HB.out.size))
        replace HSA := Lib.hid (HSA.out.mono hb)
        have HSB := Lib.hid hsb
        have HALL := Lib.hid hall
        clear hp hb hsb HLS hall
        go_wp2_with fail
        refine (HWR.out _ HB.out).mono ?_
        intro e w3 hp
        obtain ⟨rfl, hb⟩ := wrong_all hp HLB.out HALL.out
        replace HB := Lib.hid (HB.out.trans (hb.mono HB.out.size))
        replace HSA := Lib.hid (HSA.out.mono hb)
        replace HSB := Lib.hid (HSB.out.mono hb)
        clear hp hb HWR
        go_wp2_with fail
        refine (HZS.out _ HB.out).mono ?_
        rintro e W ⟨rfl, hb⟩
        rw [HLB.out]
        replace HB := Lib.hid (HB.out.trans (hb.mono HB.out.size))
        replace HSA := Lib.hid (HSA.out.mono hb)
        replace HSB := Lib.hid (HSB.out.mono hb)
        replace HA := Lib.hid (fun (V : World) (hV : Below W.heap.size W V) => HA.out V (HB.out.trans (hV.mono HB.out.size)))
        clear hb HZS HLB
        as_aux_lemma =>
          go_wp2_with fail
          go_loopw [9] (fun v9 wr => ∃ k : Nat, k ≤ n ∧ v9 = .int .i64 k ∧ Hid (Below W.heap.size W wr)) (fun v9 _ => n - (intOf v9).toNat)
          case atStart => exact ⟨0, Nat.zero_le _, rfl, Lib.hid (Below.refl _ _)⟩
          case round =>
            obtain ⟨k, hk, rfl, HL⟩ := hrel
            by_cases hlt : k < n
            · obtain ⟨b, off, hoa, hl, c0, c1, c2, c3, c4, c5, c6, c7, c8⟩ := (HA.out _ HL.out) k hlt
              subst hoa
              obtain ⟨ba, oa9, hoA, hla, a0, a1⟩ := (HSA.out.mono HL.out) k hlt
              subst hoA
              have HAF := Lib.hid (show ∀ V, Below W.heap.size W V → ba < V.heap.size ∧ V.cell? ⟨ba, oa9 + k * 2, none⟩ = some (.int .i64 (ownS (z k)).lo) ∧ V.cell? ⟨ba, oa9 + k * 2 + 1, none⟩ = some (.int .i64 (ownS (z k)).hi) from fun V hV => by
                obtain ⟨b9, o9, e9, h1, h2, h3⟩ := (HSA.out.mono hV) k hlt
                cases e9
                exact ⟨h1, h2, h3⟩)
              have HOK1 := Lib.hid (HOK.out k hlt)
              have HOS := Lib.hid (show ownS (z k) = if (z k).own.lo ≤ (z k).own.hi then (z k).own else ⟨1, 0⟩ from rfl)
              have HSU := Lib.hid (own_sums (HOK.out k hlt))
              have HBD := Lib.hid (Zon.own_bd (HOK.out k hlt))
              have HRR := Lib.hid (fun h : AllR z n => allR_own HTR.out h hlt)
              clear a0 a1 hla
              obtain ⟨sx, hsx⟩ : ∃ s, s = ownS (z k) := ⟨_, rfl⟩
              rw [← hsx] at HAF HOS
              clear hsx
              obtain ⟨ox, hox⟩ : ∃ s, s = (z k).own := ⟨_, rfl⟩
              rw [← hox] at HOS HSU HBD HRR
              clear hox
              obtain ⟨Z, hZ⟩ : ∃ Z, Z = z k := ⟨_, rfl⟩
              rw [← hZ] at c0 c1 c2 c3 c4 c5 c6 c7 c8 HOK1 HSU
              clear hZ
              obtain ⟨⟨ilo, ihi⟩, ⟨mlo, mhi⟩, ⟨elo, ehi⟩, ⟨llo, lhi⟩, p⟩ := Z
              obtain ⟨olo, ohi⟩ := ox
              simp only at c0 c1 c2 c3 c4 c5 c6 c7 c8 HSU HBD HOS
              have hk0 : (0 : Int) ≤ (k : Int) := by omega
              have hk1 : (k : Int) < (n : Int) := by omega
              go_upto_region 14 with fail
              have hbl := below_alloc1 wr (.cells #[.int .i64 ilo, .int .i64 ihi, .int .i64 mlo, .int .i64 mhi, .int .i64 elo, .int .i64 ehi, .int .i64 llo, .int .i64 lhi, .int .i64 p] 48)
              have hbx := Box.new (g := wr.heap.size) #[.int .i64 ilo, .int .i64 ihi, .int .i64 mlo, .int .i64 mhi, .int .i64 elo, .int .i64 ehi, .int .i64 llo, .int .i64 lhi, .int .i64 p] 48 wr rfl
              obtain ⟨gz, hG⟩ : ∃ G, G = wr.heap.size := ⟨_, rfl⟩
              obtain ⟨w2, hW⟩ : ∃ X, X = wr.alloc (.cells #[.int .i64 ilo, .int .i64 ihi, .int .i64 mlo, .int .i64 mhi, .int .i64 elo, .int .i64 ehi, .int .i64 llo, .int .i64 lhi, .int .i64 p] 48) := ⟨_, rfl⟩
              rw [← hW] at hbl hbx ⊢
              rw [← hG] at hbx ⊢
              replace HL := Lib.hid (HL.out.trans (hbl.mono HL.out.size))
              have HZB := Lib.hid hbx
              clear hbl hbx hW hG c0 c1 c2 c3 c4 c5 c6 c7 c8 hl wr
              by_cases hle : olo ≤ ohi
              · as_aux_lemma =>
                have HS9 := Lib.hid (show sx = ⟨olo, ohi⟩ by rw [HOS.out, if_pos hle])
                have ho1 := HS9.out
                subst ho1
                clear HS9 HOS HRR
                simp only at HAF
                have q0 : ∀ V : Aft w2, V.val.cell? ⟨ba, oa9 + k * 2, none⟩ = some (.int .i64 olo) := fun V => (HAF.out V.val (HL.out.trans (V.below.mono HL.out.size))).2.1
                have q1 : ∀ V : Aft w2, V.val.cell? ⟨ba, oa9 + k * 2 + 1, none⟩ = some (.int .i64 ohi) := fun V => (HAF.out V.val (HL.out.trans (V.below.mono HL.out.size))).2.2
                have q2 : ∀ V : Aft w2, ba < V.val.heap.size := fun V => (HAF.out V.val (HL.out.trans (V.below.mono HL.out.size))).1
                refine wp_region_aft (by kernel_rfl) (by kernel_rfl) ?_
                repeat (go_big_quiet_step (fail))
                refine wpQuiet_nil ?_
                intro WA
                obtain ⟨wy, hwy⟩ : ∃ X, X = WA.val := ⟨_, rfl⟩
                have hby := WA.below
                rw [← hwy] at hby ⊢
                clear hwy WA
                replace HL := Lib.hid (HL.out.trans (hby.mono HL.out.size))
                replace HZB := Lib.hid (HZB.out.below hby)
                clear hby q0 q1 q2 w2
                obtain ⟨w2, hw2⟩ : ∃ X, X = wy := ⟨_, rfl⟩
                rw [← hw2] at HL HZB ⊢
                clear hw2 wy
                go_upto_region 17 with fail
                have q0 : ∀ V : Aft w2, V.val.cell? ⟨ba, oa9 + k * 2, none⟩ = some (.int .i64 olo) := fun V => (HAF.out V.val (HL.out.trans (V.below.mono HL.out.size))).2.1
                have q1 : ∀ V : Aft w2, V.val.cell? ⟨ba, oa9 + k * 2 + 1, none⟩ = some (.int .i64 ohi) := fun V => (HAF.out V.val (HL.out.trans (V.below.mono HL.out.size))).2.2
                have q2 : ∀ V : Aft w2, ba < V.val.heap.size := fun V => (HAF.out V.val (HL.out.trans (V.below.mono HL.out.size))).1
                have q3 : ∀ V : Aft w2, V.val.cell? ⟨gz, 0, none⟩ = some (.int .i64 ilo) := fun V => (HZB.out.below V.below).cell 0 rfl
                have q4 : ∀ V : Aft w2, V.val.cell? ⟨gz, 1, none⟩ = some (.int .i64 ihi) := fun V => (HZB.out.below V.below).cell 1 rfl
                have q5 : ∀ V : Aft w2, V.val.cell? ⟨gz, 6, none⟩ = some (.int .i64 llo) := fun V => (HZB.out.below V.below).cell 6 rfl
                have q6 : ∀ V : Aft w2, V.val.cell? ⟨gz, 7, none⟩ = some (.int .i64 lhi) := fun V => (HZB.out.below V.below).cell 7 rfl
                have q7 : ∀ V : Aft w2, gz < V.val.heap.size := fun V => (HZB.out.below V.below).lt
                obtain ⟨⟨i1, i2, i3⟩, ⟨m1, m2, m3⟩, ⟨e1, e2, e3⟩, ⟨l1, l2, l3⟩⟩ := HOK1.out
                obtain ⟨o1, o2, o3, o4⟩ := HBD.out
                simp only at i1 i2 i3 m1 m2 m3 e1 e2 e3 l1 l2 l3
                refine wp_region_aft (by kernel_rfl) (by kernel_rfl) ?_
                repeat (go_big_quiet_step (fail))
                refine wpQuiet_nil ?_
                intro WA
                obtain ⟨wy, hwy⟩ : ∃ X, X = WA.val := ⟨_, rfl⟩
                have hby := WA.below
                rw [← hwy] at hby ⊢
                clear hwy WA
                replace HL := Lib.hid (HL.out.trans (hby.mono HL.out.size))
                replace HZB := Lib.hid (HZB.out.below hby)
                clear hby q0 q1 q2 q3 q4 q5 q6 q7 w2
                obtain ⟨s1, s2, s3, s4⟩ := HSU.out
                obtain ⟨x, hx⟩ : ∃ x, x = ilo - lhi - olo := ⟨_, rfl⟩
                obtain ⟨y, hy⟩ : ∃ y, y = ihi - llo - ohi := ⟨_, rfl⟩
                rw [← hx] at s1 s2 ⊢
                rw [← hy] at s3 s4 ⊢
                have hxb : -4294967296 ≤ x ∧ x ≤ 4294967295 := by omega
                have hyb : -4294967295 ≤ y ∧ y ≤ 4294967296 := by omega
                have b1 := mul_in (x := x) (f := 1000 + elo) (B := 4294967296) (C := 2000) (by omega) (by omega) (by omega) (by omega) (by omega)
                have b2 := mul_in (x := x + 1) (f := 1000 + elo) (B := 4294967296) (C := 2000) (by omega) (by omega) (by omega) (by omega) (by omega)
                have b3 := mul_in (x := y) (f := 1000 + ehi) (B := 4294967296) (C := 2000) (by omega) (by omega) (by omega) (by omega) (by omega)
                have b4 := mul_in (x := y - 1) (f := 1000 + ehi) (B := 4294967296) (C := 2000) (by omega) (by omega) (by omega) (by omega) (by omega)
                clear hx hy
                have d0 := HZB.out.cell 2 (v := .int .i64 mlo) rfl
                have d1 := HZB.out.cell 3 (v := .int .i64 mhi) rfl
                have d2 := HZB.out.cell 4 (v := .int .i64 elo) rfl
                have d3 := HZB.out.cell 5 (v := .int .i64 ehi) rfl
                have d4 := HZB.out.lt
                obtain ⟨d5, d6, -⟩ := HAF.out _ HL.out
                obtain ⟨p1, hp1⟩ : ∃ q, q = x * (1000 + elo) := ⟨_, rfl⟩
                obtain ⟨p2, hp2⟩ : ∃ q, q = (x + 1) * (1000 + elo) := ⟨_, rfl⟩
                obtain ⟨p3, hp3⟩ : ∃ q, q = y * (1000 + ehi) := ⟨_, rfl⟩
                obtain ⟨p4, hp4⟩ : ∃ q, q = (y - 1) * (1000 + ehi) := ⟨_, rfl⟩
                have t1 : ¬ 1000 * mhi < x * (1000 + elo) := by omega
                have t3 : ¬ y * (1000 + ehi) < 1000 * mlo := by omega
                have t4 : ¬ 1000 * mlo ≤ (y - 1) * (1000 + ehi) := by omega
                have t1' : decide (1000 * mhi < x * (1000 + elo)) = false := decide_eq_false t1
                have t3' : decide (y * (1000 + ehi) < 1000 * mlo) = false := decide_eq_false t3
                have t4' : decide (1000 * mlo ≤ (y - 1) * (1000 + ehi)) = false := decide_eq_false t4
                clear hp1 hp2 hp3 hp4 s1 s3 s4 p1 p2 p3 p4
                by_cases hpos : 0 < olo
                · as_aux_lemma =>
                  have t2 : ¬ (x + 1) * (1000 + elo) ≤ 1000 * mhi := by have := s2 hpos; omega
                  have t2' : decide ((x + 1) * (1000 + elo) ≤ 1000 * mhi) = false := decide_eq_false t2
                  have t5' : decide (0 < olo) = true := decide_eq_true hpos
                  clear s2
                  go_wp2_with fail
                  go_roundw
                  case rel => exact ⟨k + 1, by omega, by go_num, HL⟩
                  case measure => simp [intOf]; omega
                · as_aux_lemma =>
                  have t5' : decide (0 < olo) = false := decide_eq_false hpos
                  clear s2
                  go_wp2_with fail
                  go_roundw
                  case rel => exact ⟨k + 1, by omega, by go_num, HL⟩
                  case measure => simp [intOf]; omega
              · skip
                exact absurd (HRR.out HALL.out) hle
            · have hkn : n = k := by omega
              subst hkn
              clear HSA
              as_aux_lemma =>
                obtain ⟨bb, ob, hoB, -⟩ := HSB.out 0 (by omega)
                subst hoB
                have HBF := Lib.hid (show ∀ k, k < n → ∀ V, Below W.heap.size W V → bb < V.heap.size ∧ V.cell? ⟨bb, ob + k * 2, none⟩ = some (.int .i64 (dnF z n k).lo) ∧ V.cell? ⟨bb, ob + k * 2 + 1, none⟩ = some (.int .i64 (dnF z n k).hi) from fun k hk V hV => by
                  obtain ⟨b9, o9, e9, h1, h2, h3⟩ := (HSB.out.mono hV) k hk
                  cases e9
                  exact ⟨h1, h2, h3⟩)
                have HDB := Lib.hid (fun k hk => dn_bd HTR.out HOK.out HALL.out (i := k) hk)
                have HDD := Lib.hid (fun q hq hne => dn_D HTR.out HALL.out (q := q) hq hne)
                have HDU := Lib.hid (fun q c hq hc => dn_U HTR.out HALL.out (q := q) (c := c) hq hc)
                have HSL := Lib.hid (show ∀ i m, m ≤ n → 0 ≤ sumL (fun c => (dnF z n c).lo) (kidsTo z i m) ∧ sumL (fun c => (dnF z n c).lo) (kidsTo z i m) ≤ 12884901888 ∧ 0 ≤ sumL (fun c => (dnF z n c).hi) (kidsTo z i m) ∧ sumL (fun c => (dnF z n c).hi) (kidsTo z i m) ≤ 12884901888 from fun i m hm => by
                  have hmm : ∀ c ∈ kidsTo z i m, c < n := fun c hc => by have := (mem_kidsTo.1 hc).1; omega
                  have k1 := sumL_bd (f := fun c => (dnF z n c).lo) (B := 1073741824) (l := kidsTo z i m) fun c hc => by have := HDB.out c (hmm c hc); omega
                  have k2 := sumL_bd (f := fun c => (dnF z n c).hi) (B := 1073741824) (l := kidsTo z i m) fun c hc => by have := HDB.out c (hmm c hc); omega
                  have k3 := kidsTo_len z i m
                  omega)
                clear HSB HALL HOK
                go_wp2_with fail
                go_loopw [13] (fun v13 wr => ∃ k : Nat, k ≤ n ∧ v13 = .int .i64 k ∧ Hid (Below W.heap.size W wr)) (fun v13 _ => n - (intOf v13).toNat)
                case atStart => exact ⟨0, Nat.zero_le _, rfl, HL⟩
                case round =>
                  clear HL
                  obtain ⟨i, hi, rfl, HL⟩ := hrel
                  by_cases hilt : i < n
                  · have hi0 : (0 : Int) ≤ (i : Int) := by omega
                    have hi1 : (i : Int) < (n : Int) := by omega
                    go_wp2_with fail
                    refine (lspan_any _ _ _).mono ?_
                    rintro e wr2 ⟨rfl, hb⟩
                    replace HL := Lib.hid (HL.out.trans (hb.mono HL.out.size))
                    clear hb
                    go_upto_region 26 with fail
                    have HGS := Lib.hid (show W.heap.size ≤ wr2.heap.size from HL.out.size)
                    replace HL := Lib.hid (HL.out.alloc HL.out.size (.cells #[.int .i64 0, .int .i64 0] 41))
                    have HBS := Lib.hid (Box.new (g := wr2.heap.size) #[.int .i64 0, .int .i64 0] 41 wr2 rfl)
                    obtain ⟨gs, hG⟩ : ∃ G, G = wr2.heap.size := ⟨_, rfl⟩
                    obtain ⟨w3, hW3⟩ : ∃ X, X = wr2.alloc (.cells #[.int .i64 0, .int .i64 0] 41) := ⟨_, rfl⟩
                    rw [← hW3] at HL HBS ⊢
                    rw [← hG] at HGS HBS ⊢
                    clear hW3 hG
                    go_wp2_with fail
                    go_loopw [15, 16] (fun v15 v16 wr => ∃ m : Nat, m ≤ n ∧ v16 = .int .i64 m ∧ v15 = .bool (decide (kidsTo z i m ≠ [])) ∧ Hid (Box gs #[.int .i64 (sumL (fun c => (dnF z n c).lo) (kidsTo z i m)), .int .i64 (sumL (fun c => (dnF z n c).hi) (kidsTo z i m))] 41 wr) ∧ Hid (Below W.heap.size W wr)) (fun _ v16 _ => n - (intOf v16).toNat)
                    case atStart => exact ⟨0, Nat.zero_le _, rfl, rfl, HBS, HL⟩
                    case round =>
                      clear HL HBS
                      obtain ⟨m, hm, rfl, rfl, HBS, HL⟩ := hrel
                      by_cases hmlt : m < n
                      · obtain ⟨b, off, hoa, hl, -, -, -, -, -, -, -, -, c8⟩ := (HA.out _ HL.out) m hmlt
                        subst hoa
                        have hm0 : (0 : Int) ≤ (m : Int) := by omega
                        have hm1 : (m : Int) < (n : Int) := by omega
                        by_cases hp : (z m).p = (i : Int)
                        · as_aux_lemma =>
                          have HK := Lib.hid (show sumL (fun c => (dnF z n c).lo) (kidsTo z i (m + 1)) = sumL (fun c => (dnF z n c).lo) (kidsTo z i m) + (dnF z n m).lo ∧ sumL (fun c => (dnF z n c).hi) (kidsTo z i (m + 1)) = sumL (fun c => (dnF z n c).hi) (kidsTo z i m) + (dnF z n m).hi ∧ decide (kidsTo z i (m + 1) ≠ []) = true by
                            rw [kidsTo_some hp, sumL_snoc, sumL_snoc]
                            exact ⟨rfl, rfl, decide_eq_true (by simp)⟩)
                          have hb1 := HSL.out i m hm
                          have hb2 := HDB.out m hmlt
                          obtain ⟨sl, hsl⟩ : ∃ s, s = sumL (fun c => (dnF z n c).lo) (kidsTo z i m) := ⟨_, rfl⟩
                          obtain ⟨sh, hsh⟩ : ∃ s, s = sumL (fun c => (dnF z n c).hi) (kidsTo z i m) := ⟨_, rfl⟩
                          have HCF := Lib.hid (fun V hV => HBF.out m hmlt V hV)
                          rw [← hsl, ← hsh] at HBS
                          rw [← hsl, ← hsh] at HK hb1
                          obtain ⟨D, hD⟩ : ∃ D, D = dnF z n m := ⟨_, rfl⟩
                          rw [← hD] at HCF HK hb2
                          obtain ⟨bv, hbv⟩ : ∃ v, v = decide (kidsTo z i m ≠ []) := ⟨_, rfl⟩
                          rw [← hbv]
                          clear hbv
                          clear hsl hsh hD
                          rw [hp] at c8
                          clear hp
                          obtain ⟨dlo, dhi⟩ := D
                          simp only at HCF HK hb2
                          obtain ⟨x1, x2, x3, x4⟩ := hb1
                          obtain ⟨y1, y2, y3, -⟩ := hb2
                          go_upto_region 30 with fail
                          clear c8 hl
                          have hP0 : ∀ A B : World, Below wr.heap.size wr A → Below A.heap.size A B → Below wr.heap.size wr B := fun A B h1 h2 => h1.trans (h2.mono h1.size)
                          have hP1 : ∀ A B : World, gs < A.heap.size → Below A.heap.size A B → gs < B.heap.size := fun _ _ h1 h2 => Nat.lt_of_lt_of_le h1 h2.size
                          have hP01 : ∀ A : World, Below wr.heap.size wr A → gs < A.heap.size := fun _ h1 => Nat.lt_of_lt_of_le HBS.out.lt h1.size
                          have hC0 : Below wr.heap.size wr wr.drew := (Below.refl _ _).drew
                          refine wp_region_phase 17 (fun A => Below wr.heap.size wr A) (fun A => gs < A.heap.size) (by kernel_rfl) ?_
                          (refine wpAnyP_take0 (i := 0) hP0 hP1 hC0 (by decide) (by rfl) rfl (by kernel_rfl) rfl (by kernel_rfl) (by kernel_rfl) (by kernel_rfl) (fun _ _ _ _ h => h) (by rfl) ?_; apply Exists.intro; refine ⟨fun w1 h1 K hK => ?_, ?_⟩; · (have q9 : ∀ V : Aft w1, gs < V.val.heap.size := fun V => (HBS.out.below (hP0 _ _ h1 V.below)).lt; go_big_quiet_op; first | exact hK | fail))
                          (refine wpAnyP_take0 (i := 1) hP0 hP1 hC0 (by decide) (by rfl) rfl (by kernel_rfl) rfl (by kernel_rfl) (by kernel_rfl) (by kernel_rfl) (fun _ _ _ _ h => h) (by rfl) ?_; apply Exists.intro; refine ⟨fun w1 h1 K hK => ?_, ?_⟩; · (have q9 : ∀ V : Aft w1, V.val.cell? ⟨gs, 0, none⟩ = some (.int .i64 sl) := fun V => (HBS.out.below (hP0 _ _ h1 V.below)).cell 0 rfl; go_big_quiet_op; first | exact hK | fail))
                          (refine wpAnyP_take0 (i := 2) hP0 hP1 hC0 (by decide) (by rfl) rfl (by kernel_rfl) rfl (by kernel_rfl) (by kernel_rfl) (by kernel_rfl) (fun _ _ _ _ h => h) (by rfl) ?_; apply Exists.intro; refine ⟨fun w1 h1 K hK => ?_, ?_⟩; · ( go_big_quiet_op; first | exact hK | fail))
                          (refine wpAnyP_take0 (i := 3) hP0 hP1 hC0 (by decide) (by rfl) rfl (by kernel_rfl) rfl (by kernel_rfl) (by kernel_rfl) (by kernel_rfl) (fun _ _ _ _ h => h) (by rfl) ?_; apply Exists.intro; refine ⟨fun w1 h1 K hK => ?_, ?_⟩; · ( go_big_quiet_op; first | exact hK | fail))
                          (refine wpAnyP_take0 (i := 4) hP0 hP1 hC0 (by decide) (by rfl) rfl (by kernel_rfl) rfl (by kernel_rfl) (by kernel_rfl) (by kernel_rfl) (fun _ _ _ _ h => h) (by rfl) ?_; apply Exists.intro; refine ⟨fun w1 h1 K hK => ?_, ?_⟩; · ( go_big_quiet_op; first | exact hK | fail))
                          (refine wpAnyP_take0 (i := 5) hP0 hP1 hC0 (by decide) (by rfl) rfl (by kernel_rfl) rfl (by kernel_rfl) (by kernel_rfl) (by kernel_rfl) (fun _ _ _ _ h => h) (by rfl) ?_; apply Exists.intro; refine ⟨fun w1 h1 K hK => ?_, ?_⟩; · (have q9 : ∀ V : Aft w1, bb < V.val.heap.size := fun V => (HCF.out V.val (HL.out.trans ((hP0 _ _ h1 V.below).mono HL.out.size))).1; go_big_quiet_op; first | exact hK | fail))
                          (refine wpAnyP_take0 (i := 6) hP0 hP1 hC0 (by decide) (by rfl) rfl (by kernel_rfl) rfl (by kernel_rfl) (by kernel_rfl) (by kernel_rfl) (fun _ _ _ _ h => h) (by rfl) ?_; apply Exists.intro; refine ⟨fun w1 h1 K hK => ?_, ?_⟩; · (have q9 : ∀ V : Aft w1, V.val.cell? ⟨bb, ob + m * 2, none⟩ = some (.int .i64 dlo) := fun V => (HCF.out V.val (HL.out.trans ((hP0 _ _ h1 V.below).mono HL.out.size))).2.1; go_big_quiet_op; first | exact hK | fail))
                          (refine wpAnyP_take0 (i := 7) hP0 hP1 hC0 (by decide) (by rfl) rfl (by kernel_rfl) rfl (by kernel_rfl) (by kernel_rfl) (by kernel_rfl) (fun _ _ _ _ h => h) (by rfl) ?_; apply Exists.intro; refine ⟨fun w1 h1 K hK => ?_, ?_⟩; · ( go_big_quiet_op; first | exact hK | fail))
                          (refine wpAnyP_take0 (i := 8) hP0 hP1 hC0 (by decide) (by rfl) rfl (by kernel_rfl) rfl (by kernel_rfl) (by kernel_rfl) (by kernel_rfl) (fun _ _ _ _ h => h) (by rfl) ?_; apply Exists.intro; refine ⟨fun w1 h1 K hK => ?_, ?_⟩; · (have q9 : ∀ V : Aft w1, gs < V.val.heap.size := fun V => (HBS.out.below (hP0 _ _ h1 V.below)).lt; go_big_quiet_op; first | exact hK | fail))
                          (refine wpAnyP_take0 (i := 9) hP0 hP1 hC0 (by decide) (by rfl) rfl (by kernel_rfl) rfl (by kernel_rfl) (by kernel_rfl) (by kernel_rfl) (fun _ _ _ _ h => h) (by rfl) ?_; apply Exists.intro; refine ⟨fun w1 h1 K hK => ?_, ?_⟩; · (have q9 : ∀ V : Aft w1, V.val.cell? ⟨gs, 1, none⟩ = some (.int .i64 sh) := fun V => (HBS.out.below (hP0 _ _ h1 V.below)).cell 1 rfl; go_big_quiet_op; first | exact hK | fail))
                          (refine wpAnyP_take0 (i := 10) hP0 hP1 hC0 (by decide) (by rfl) rfl (by kernel_rfl) rfl (by kernel_rfl) (by kernel_rfl) (by kernel_rfl) (fun _ _ _ _ h => h) (by rfl) ?_; apply Exists.intro; refine ⟨fun w1 h1 K hK => ?_, ?_⟩; · ( go_big_quiet_op; first | exact hK | fail))
                          (refine wpAnyP_take0 (i := 11) hP0 hP1 hC0 (by decide) (by rfl) rfl (by kernel_rfl) rfl (by kernel_rfl) (by kernel_rfl) (by kernel_rfl) (fun _ _ _ _ h => h) (by rfl) ?_; apply Exists.intro; refine ⟨fun w1 h1 K hK => ?_, ?_⟩; · ( go_big_quiet_op; first | exact hK | fail))
                          (refine wpAnyP_take0 (i := 12) hP0 hP1 hC0 (by decide) (by rfl) rfl (by kernel_rfl) rfl (by kernel_rfl) (by kernel_rfl) (by kernel_rfl) (fun _ _ _ _ h => h) (by rfl) ?_; apply Exists.intro; refine ⟨fun w1 h1 K hK => ?_, ?_⟩; · ( go_big_quiet_op; first | exact hK | fail))
                          (refine wpAnyP_take0 (i := 13) hP0 hP1 hC0 (by decide) (by rfl) rfl (by kernel_rfl) rfl (by kernel_rfl) (by kernel_rfl) (by kernel_rfl) (fun _ _ _ _ h => h) (by rfl) ?_; apply Exists.intro; refine ⟨fun w1 h1 K hK => ?_, ?_⟩; · (have q9 : ∀ V : Aft w1, bb < V.val.heap.size := fun V => (HCF.out V.val (HL.out.trans ((hP0 _ _ h1 V.below).mono HL.out.size))).1; go_big_quiet_op; first | exact hK | fail))
                          (refine wpAnyP_take0 (i := 14) hP0 hP1 hC0 (by decide) (by rfl) rfl (by kernel_rfl) rfl (by kernel_rfl) (by kernel_rfl) (by kernel_rfl) (fun _ _ _ _ h => h) (by rfl) ?_; apply Exists.intro; refine ⟨fun w1 h1 K hK => ?_, ?_⟩; · (have q9 : ∀ V : Aft w1, V.val.cell? ⟨bb, ob + m * 2 + 1, none⟩ = some (.int .i64 dhi) := fun V => (HCF.out V.val (HL.out.trans ((hP0 _ _ h1 V.below).mono HL.out.size))).2.2; go_big_quiet_op; first | exact hK | fail))
                          (refine wpAnyP_take0 (i := 15) hP0 hP1 hC0 (by decide) (by rfl) rfl (by kernel_rfl) rfl (by kernel_rfl) (by kernel_rfl) (by kernel_rfl) (fun _ _ _ _ h => h) (by rfl) ?_; apply Exists.intro; refine ⟨fun w1 h1 K hK => ?_, ?_⟩; · ( go_big_quiet_op; first | exact hK | fail))
                          (refine wpAnyP_take0 (i := 16) hP0 hP1 hC0 (by decide) (by rfl) rfl (by kernel_rfl) rfl (by kernel_rfl) (by kernel_rfl) (by kernel_rfl) (fun _ _ _ _ h => h) (by rfl) ?_; apply Exists.intro; refine ⟨fun w1 h1 K hK => ?_, ?_⟩; · ( go_big_quiet_op; first | exact hK | exact ⟨_, fun W => aft_call (lspan_any _ _ _), hK⟩))
                          (refine wpAnyP_one (i := 17) (by kernel_rfl) rfl (by rfl) (fun wa hwa K hK => ?_))
                          have hA1 := hP0 _ _ hC0 hwa
                          refine wp_store_box (HBS.out.below hA1) rfl rfl rfl rfl (by kernel_rfl) (by simp [Value.oneCell']) (fun wb zs ho => ?_); dsimp only [Act.put]
                          have hLb : Below W.heap.size W wb := (HL.out.trans (hA1.mono HL.out.size)).trans (ho.below HGS.out)
                          refine hK _ _ zs.lt ?_
                          clear hK K
                          (refine wpAnyP_one (i := 18) (by kernel_rfl) rfl (by rfl) (fun wc hwc K hK => ?_))
                          go_simp
                          refine hK _ _ (Nat.lt_of_lt_of_le zs.lt hwc.size) ?_
                          clear hK K
                          replace zs := zs.below hwc
                          replace hLb := hLb.trans (hwc.mono hLb.size)
                          refine wpAnyP_done (by kernel_rfl) (fun wz hwz => ?_) _
                          have HBS2 := Lib.hid (show Box gs #[.int .i64 (sumL (fun c => (dnF z n c).lo) (kidsTo z i (m + 1))), .int .i64 (sumL (fun c => (dnF z n c).hi) (kidsTo z i (m + 1)))] 41 wz by rw [HK.out.1, HK.out.2.1]; exact zs.below hwz)
                          have HL2 := Lib.hid (hLb.trans (hwz.mono hLb.size))
                          have HK3 := Lib.hid HK.out.2.2
                          clear hP0 hP1 hP01 hC0 hwa hwc hA1 zs ho hLb hwz HK HCF HBS HL x1 x2 x3 x4 y1 y2 y3
                          go_wp2_with fail
                          go_roundw
                          case rel => exact ⟨m + 1, by omega, by go_num, by rw [HK3.out], HBS2, HL2⟩
                          case measure => simp [intOf]; omega
                        · as_aux_lemma =>
                          have HK := Lib.hid (kidsTo_none (k := m) hp)
                          obtain ⟨bv, hbv⟩ : ∃ v, v = decide (kidsTo z i m ≠ []) := ⟨_, rfl⟩
                          rw [← hbv]
                          have HBV := Lib.hid hbv
                          clear hbv
                          obtain ⟨pp, hpp⟩ : ∃ v, v = (z m).p := ⟨_, rfl⟩
                          rw [← hpp] at c8 hp
                          clear hpp
                          have hpb : (pp == (i : Int)) = false := by simpa using hp
                          go_wp2_with fail
                          go_roundw
                          case rel => exact ⟨m + 1, by omega, by go_num, by rw [HK.out, HBV.out], by rw [HK.out]; exact HBS, HL⟩
                          case measure => simp [intOf]; omega
                      · have hmn : n = m := by omega
                        subst hmn
                        have HDI := Lib.hid (HDB.out i hilt)
                        have HCI := Lib.hid (fun V hV => HBF.out i hilt V hV)
                        have HSN := Lib.hid (HSL.out i n (Nat.le_refl _))
                        have HDN := Lib.hid (fun h => HDD.out i hilt h)
                        have HUN := Lib.hid (fun c h => HDU.out i c hilt h)
                        obtain ⟨sl, hsl⟩ : ∃ s, s = sumL (fun c => (dnF z n c).lo) (kidsTo z i n) := ⟨_, rfl⟩
                        obtain ⟨sh, hsh⟩ : ∃ s, s = sumL (fun c => (dnF z n c).hi) (kidsTo z i n) := ⟨_, rfl⟩
                        rw [← hsl, ← hsh] at HBS HSN HDN HUN
                        obtain ⟨D, hD⟩ : ∃ D, D = dnF z n i := ⟨_, rfl⟩
                        rw [← hD] at HCI HDN HUN HDI
                        clear hsl hsh hD
                        obtain ⟨dlo, dhi⟩ := D
                        simp only at HCI HDN HUN HDI
                        by_cases hne : kidsTo z i n ≠ []
                        · rw [decide_eq_true hne]
                          obtain ⟨n1, n2⟩ := HDN.out hne
                          clear hne HDN
                          have u1 : decide (dlo < sl) = false := decide_eq_false (by omega)
                          have u2 : decide (sh < dhi) = false := decide_eq_false (by omega)
                          go_upto_region 31 with fail
                          have q0 : ∀ V : Aft wr, V.val.cell? ⟨bb, ob + i * 2, none⟩ = some (.int .i64 dlo) := fun V => (HCI.out V.val (HL.out.trans (V.below.mono HL.out.size))).2.1
                          have q1 : ∀ V : Aft wr, V.val.cell? ⟨bb, ob + i * 2 + 1, none⟩ = some (.int .i64 dhi) := fun V => (HCI.out V.val (HL.out.trans (V.below.mono HL.out.size))).2.2
                          have q2 : ∀ V : Aft wr, bb < V.val.heap.size := fun V => (HCI.out V.val (HL.out.trans (V.below.mono HL.out.size))).1
                          have q3 : ∀ V : Aft wr, V.val.cell? ⟨gs, 0, none⟩ = some (.int .i64 sl) := fun V => (HBS.out.below V.below).cell 0 rfl
                          have q4 : ∀ V : Aft wr, V.val.cell? ⟨gs, 1, none⟩ = some (.int .i64 sh) := fun V => (HBS.out.below V.below).cell 1 rfl
                          have q5 : ∀ V : Aft wr, gs < V.val.heap.size := fun V => (HBS.out.below V.below).lt
                          refine wp_region_aft (by kernel_rfl) (by kernel_rfl) ?_
                          repeat (go_big_quiet_step (fail))
                          refine wpQuiet_nil ?_
                          intro WA
                          obtain ⟨wy, hwy⟩ : ∃ X, X = WA.val := ⟨_, rfl⟩
                          have hby := WA.below
                          rw [← hwy] at hby ⊢
                          clear hwy WA
                          clear q0 q1 q2 q3 q4 q5 u1 u2 n1 n2
                          as_aux_lemma =>
                            replace HL := Lib.hid (HL.out.trans (hby.mono HL.out.size))
                            replace HBS := Lib.hid (HBS.out.below hby)
                            clear hby
                            go_wp2_with fail
                            go_loopw [17] (fun v17 wr => ∃ m : Nat, m ≤ n ∧ v17 = .int .i64 m ∧ Hid (Box gs #[.int .i64 sl, .int .i64 sh] 41 wr) ∧ Hid (Below W.heap.size W wr)) (fun v17 _ => n - (intOf v17).toNat)
                            case atStart => exact ⟨0, Nat.zero_le _, rfl, HBS, HL⟩
                            case round =>
                              clear HL HBS
                              obtain ⟨m, hm, rfl, HBS, HL⟩ := hrel
                              by_cases hmlt : m < n
                              · obtain ⟨b, off, hoa, hl, -, -, -, -, -, -, -, -, -⟩ := (HA.out _ HL.out) m hmlt
                                subst hoa
                                have hm0 : (0 : Int) ≤ (m : Int) := by omega
                                have hm1 : (m : Int) < (n : Int) := by omega
                                have HPF := Lib.hid (show ∀ V, Below wr.heap.size wr V → b < V.heap.size ∧ V.cell? ⟨b, off + m * 9 + 1 + 1 + 1 + 1 + 1 + 1 + 1 + 1, none⟩ = some (.int .i64 (z m).p) from fun V hV => by
                                  obtain ⟨b9, o9, e9, h1, -, -, -, -, -, -, -, -, h2⟩ := (HA.out _ (HL.out.trans (hV.mono HL.out.size))) m hmlt
                                  cases e9
                                  exact ⟨h1, h2⟩)
                                go_upto_region 36 with fail
                                by_cases hp : (z m).p = (i : Int)
                                · as_aux_lemma =>
                                  have HUM := Lib.hid (HUN.out m (mem_kidsTo.2 ⟨hmlt, hp⟩))
                                  rw [hp] at HPF
                                  have HCM := Lib.hid (fun V hV => HBF.out m hmlt V hV)
                                  have HDM := Lib.hid (HDB.out m hmlt)
                                  obtain ⟨M, hM⟩ : ∃ D, D = dnF z n m := ⟨_, rfl⟩
                                  rw [← hM] at HCM HDM HUM
                                  clear hM hp
                                  obtain ⟨ylo, yhi⟩ := M
                                  simp only at HCM HDM HUM
                                  obtain ⟨v1, v2⟩ := HUM.out
                                  obtain ⟨x1, x2, x3, x4⟩ := HSN.out
                                  obtain ⟨y1, y2, y3, -⟩ := HDM.out
                                  obtain ⟨k1, k2, k3, -⟩ := HDI.out
                                  have u1 : decide (ylo < dlo - (sh - yhi)) = false := decide_eq_false (by omega)
                                  have u2 : decide (dhi - (sl - ylo) < yhi) = false := decide_eq_false (by omega)
                                  have hpb : ((i : Int) == (i : Int)) = true := by simp
                                  have q0 : ∀ V : Aft wr, V.val.cell? ⟨bb, ob + i * 2, none⟩ = some (.int .i64 dlo) := fun V => (HCI.out V.val (HL.out.trans (V.below.mono HL.out.size))).2.1
                                  have q1 : ∀ V : Aft wr, V.val.cell? ⟨bb, ob + i * 2 + 1, none⟩ = some (.int .i64 dhi) := fun V => (HCI.out V.val (HL.out.trans (V.below.mono HL.out.size))).2.2
                                  have q2 : ∀ V : Aft wr, bb < V.val.heap.size := fun V => (HCI.out V.val (HL.out.trans (V.below.mono HL.out.size))).1
                                  have q3 : ∀ V : Aft wr, V.val.cell? ⟨gs, 0, none⟩ = some (.int .i64 sl) := fun V => (HBS.out.below V.below).cell 0 rfl
                                  have q4 : ∀ V : Aft wr, V.val.cell? ⟨gs, 1, none⟩ = some (.int .i64 sh) := fun V => (HBS.out.below V.below).cell 1 rfl
                                  have q5 : ∀ V : Aft wr, gs < V.val.heap.size := fun V => (HBS.out.below V.below).lt
                                  have q6 : ∀ V : Aft wr, V.val.cell? ⟨bb, ob + m * 2, none⟩ = some (.int .i64 ylo) := fun V => (HCM.out V.val (HL.out.trans (V.below.mono HL.out.size))).2.1
                                  have q7 : ∀ V : Aft wr, V.val.cell? ⟨bb, ob + m * 2 + 1, none⟩ = some (.int .i64 yhi) := fun V => (HCM.out V.val (HL.out.trans (V.below.mono HL.out.size))).2.2
                                  have q8 : ∀ V : Aft wr, b < V.val.heap.size := fun V => (HPF.out V.val V.below).1
                                  have q9 : ∀ V : Aft wr, V.val.cell? ⟨b, off + m * 9 + 1 + 1 + 1 + 1 + 1 + 1 + 1 + 1, none⟩ = some (.int .i64 (i : Nat)) := fun V => (HPF.out V.val V.below).2
                                  refine wp_region_aft (by kernel_rfl) (by kernel_rfl) ?_
                                  repeat (go_big_quiet_step (fail))
                                  refine wpQuiet_nil ?_
                                  intro WA
                                  obtain ⟨wy, hwy⟩ : ∃ X, X = WA.val := ⟨_, rfl⟩
                                  have hby := WA.below
                                  rw [← hwy] at hby ⊢
                                  clear hwy WA
                                  replace HL := Lib.hid (HL.out.trans (hby.mono HL.out.size))
                                  replace HBS := Lib.hid (HBS.out.below hby)
                                  clear q0 q1 q2 q3 q4 q5 q6 q7 q8 q9 u1 u2 hpb hby v1 v2 x1 x2 x3 x4 y1 y2 y3 k1 k2 k3
                                  go_wp2_with fail
                                  go_roundw
                                  case rel => exact ⟨m + 1, by omega, by go_num, HBS, HL⟩
                                  case measure => simp [intOf]; omega
                                · as_aux_lemma =>
                                  obtain ⟨pp, hpp⟩ : ∃ v, v = (z m).p := ⟨_, rfl⟩
                                  rw [← hpp] at HPF hp
                                  clear hpp
                                  have hpb : (pp == (i : Int)) = false := by simpa using hp
                                  have q8 : ∀ V : Aft wr, b < V.val.heap.size := fun V => (HPF.out V.val V.below).1
                                  have q9 : ∀ V : Aft wr, V.val.cell? ⟨b, off + m * 9 + 1 + 1 + 1 + 1 + 1 + 1 + 1 + 1, none⟩ = some (.int .i64 pp) := fun V => (HPF.out V.val V.below).2
                                  refine wp_region_aft (by kernel_rfl) (by kernel_rfl) ?_
                                  repeat (go_big_quiet_step (fail))
                                  refine wpQuiet_nil ?_
                                  intro WA
                                  obtain ⟨wy, hwy⟩ : ∃ X, X = WA.val := ⟨_, rfl⟩
                                  have hby := WA.below
                                  rw [← hwy] at hby ⊢
                                  clear hwy WA
                                  replace HL := Lib.hid (HL.out.trans (hby.mono HL.out.size))
                                  replace HBS := Lib.hid (HBS.out.below hby)
                                  clear q8 q9 hpb hby
                                  go_wp2_with fail
                                  go_roundw
                                  case rel => exact ⟨m + 1, by omega, by go_num, HBS, HL⟩
                                  case measure => simp [intOf]; omega
                              · have hmn : m = n := by omega
                                subst hmn
                                go_wp2_with fail
                                go_roundw
                                case rel => exact ⟨i + 1, by omega, by go_num, HL⟩
                                case measure => simp [intOf]; omega
                        · rw [decide_eq_false hne]
                          clear hne HDN
                          go_upto_region 31 with fail
                          refine wp_region_aft (by kernel_rfl) (by kernel_rfl) ?_
                          repeat (go_big_quiet_step (fail))
                          refine wpQuiet_nil ?_
                          intro WA
                          obtain ⟨wy, hwy⟩ : ∃ X, X = WA.val := ⟨_, rfl⟩
                          have hby := WA.below
                          rw [← hwy] at hby ⊢
                          clear hwy WA
                          as_aux_lemma =>
                            replace HL := Lib.hid (HL.out.trans (hby.mono HL.out.size))
                            replace HBS := Lib.hid (HBS.out.below hby)
                            clear hby
                            go_wp2_with fail
                            go_loopw [17] (fun v17 wr => ∃ m : Nat, m ≤ n ∧ v17 = .int .i64 m ∧ Hid (Box gs #[.int .i64 sl, .int .i64 sh] 41 wr) ∧ Hid (Below W.heap.size W wr)) (fun v17 _ => n - (intOf v17).toNat)
                            case atStart => exact ⟨0, Nat.zero_le _, rfl, HBS, HL⟩
                            case round =>
                              clear HL HBS
                              obtain ⟨m, hm, rfl, HBS, HL⟩ := hrel
                              by_cases hmlt : m < n
                              · obtain ⟨b, off, hoa, hl, -, -, -, -, -, -, -, -, -⟩ := (HA.out _ HL.out) m hmlt
                                subst hoa
                                have hm0 : (0 : Int) ≤ (m : Int) := by omega
                                have hm1 : (m : Int) < (n : Int) := by omega
                                have HPF := Lib.hid (show ∀ V, Below wr.heap.size wr V → b < V.heap.size ∧ V.cell? ⟨b, off + m * 9 + 1 + 1 + 1 + 1 + 1 + 1 + 1 + 1, none⟩ = some (.int .i64 (z m).p) from fun V hV => by
                                  obtain ⟨b9, o9, e9, h1, -, -, -, -, -, -, -, -, h2⟩ := (HA.out _ (HL.out.trans (hV.mono HL.out.size))) m hmlt
                                  cases e9
                                  exact ⟨h1, h2⟩)
                                go_upto_region 36 with fail
                                by_cases hp : (z m).p = (i : Int)
                                · as_aux_lemma =>
                                  have HUM := Lib.hid (HUN.out m (mem_kidsTo.2 ⟨hmlt, hp⟩))
                                  rw [hp] at HPF
                                  have HCM := Lib.hid (fun V hV => HBF.out m hmlt V hV)
                                  have HDM := Lib.hid (HDB.out m hmlt)
                                  obtain ⟨M, hM⟩ : ∃ D, D = dnF z n m := ⟨_, rfl⟩
                                  rw [← hM] at HCM HDM HUM
                                  clear hM hp
                                  obtain ⟨ylo, yhi⟩ := M
                                  simp only at HCM HDM HUM
                                  obtain ⟨v1, v2⟩ := HUM.out
                                  obtain ⟨x1, x2, x3, x4⟩ := HSN.out
                                  obtain ⟨y1, y2, y3, -⟩ := HDM.out
                                  obtain ⟨k1, k2, k3, -⟩ := HDI.out
                                  have u1 : decide (ylo < dlo - (sh - yhi)) = false := decide_eq_false (by omega)
                                  have u2 : decide (dhi - (sl - ylo) < yhi) = false := decide_eq_false (by omega)
                                  have hpb : ((i : Int) == (i : Int)) = true := by simp
                                  have q0 : ∀ V : Aft wr, V.val.cell? ⟨bb, ob + i * 2, none⟩ = some (.int .i64 dlo) := fun V => (HCI.out V.val (HL.out.trans (V.below.mono HL.out.size))).2.1
                                  have q1 : ∀ V : Aft wr, V.val.cell? ⟨bb, ob + i * 2 + 1, none⟩ = some (.int .i64 dhi) := fun V => (HCI.out V.val (HL.out.trans (V.below.mono HL.out.size))).2.2
                                  have q2 : ∀ V : Aft wr, bb < V.val.heap.size := fun V => (HCI.out V.val (HL.out.trans (V.below.mono HL.out.size))).1
                                  have q3 : ∀ V : Aft wr, V.val.cell? ⟨gs, 0, none⟩ = some (.int .i64 sl) := fun V => (HBS.out.below V.below).cell 0 rfl
                                  have q4 : ∀ V : Aft wr, V.val.cell? ⟨gs, 1, none⟩ = some (.int .i64 sh) := fun V => (HBS.out.below V.below).cell 1 rfl
                                  have q5 : ∀ V : Aft wr, gs < V.val.heap.size := fun V => (HBS.out.below V.below).lt
                                  have q6 : ∀ V : Aft wr, V.val.cell? ⟨bb, ob + m * 2, none⟩ = some (.int .i64 ylo) := fun V => (HCM.out V.val (HL.out.trans (V.below.mono HL.out.size))).2.1
                                  have q7 : ∀ V : Aft wr, V.val.cell? ⟨bb, ob + m * 2 + 1, none⟩ = some (.int .i64 yhi) := fun V => (HCM.out V.val (HL.out.trans (V.below.mono HL.out.size))).2.2
                                  have q8 : ∀ V : Aft wr, b < V.val.heap.size := fun V => (HPF.out V.val V.below).1
                                  have q9 : ∀ V : Aft wr, V.val.cell? ⟨b, off + m * 9 + 1 + 1 + 1 + 1 + 1 + 1 + 1 + 1, none⟩ = some (.int .i64 (i : Nat)) := fun V => (HPF.out V.val V.below).2
                                  refine wp_region_aft (by kernel_rfl) (by kernel_rfl) ?_
                                  repeat (go_big_quiet_step (fail))
                                  refine wpQuiet_nil ?_
                                  intro WA
                                  obtain ⟨wy, hwy⟩ : ∃ X, X = WA.val := ⟨_, rfl⟩
                                  have hby := WA.below
                                  rw [← hwy] at hby ⊢
                                  clear hwy WA
                                  replace HL := Lib.hid (HL.out.trans (hby.mono HL.out.size))
                                  replace HBS := Lib.hid (HBS.out.below hby)
                                  clear q0 q1 q2 q3 q4 q5 q6 q7 q8 q9 u1 u2 hpb hby v1 v2 x1 x2 x3 x4 y1 y2 y3 k1 k2 k3
                                  go_wp2_with fail
                                  go_roundw
                                  case rel => exact ⟨m + 1, by omega, by go_num, HBS, HL⟩
                                  case measure => simp [intOf]; omega
                                · as_aux_lemma =>
                                  obtain ⟨pp, hpp⟩ : ∃ v, v = (z m).p := ⟨_, rfl⟩
                                  rw [← hpp] at HPF hp
                                  clear hpp
                                  have hpb : (pp == (i : Int)) = false := by simpa using hp
                                  have q8 : ∀ V : Aft wr, b < V.val.heap.size := fun V => (HPF.out V.val V.below).1
                                  have q9 : ∀ V : Aft wr, V.val.cell? ⟨b, off + m * 9 + 1 + 1 + 1 + 1 + 1 + 1 + 1 + 1, none⟩ = some (.int .i64 pp) := fun V => (HPF.out V.val V.below).2
                                  refine wp_region_aft (by kernel_rfl) (by kernel_rfl) ?_
                                  repeat (go_big_quiet_step (fail))
                                  refine wpQuiet_nil ?_
                                  intro WA
                                  obtain ⟨wy, hwy⟩ : ∃ X, X = WA.val := ⟨_, rfl⟩
                                  have hby := WA.below
                                  rw [← hwy] at hby ⊢
                                  clear hwy WA
                                  replace HL := Lib.hid (HL.out.trans (hby.mono HL.out.size))
                                  replace HBS := Lib.hid (HBS.out.below hby)
                                  clear q8 q9 hpb hby
                                  go_wp2_with fail
                                  go_roundw
                                  case rel => exact ⟨m + 1, by omega, by go_num, HBS, HL⟩
                                  case measure => simp [intOf]; omega
                              · have hmn : m = n := by omega
                                subst hmn
                                go_wp2_with fail
                                go_roundw
                                case rel => exact ⟨i + 1, by omega, by go_num, HL⟩
                                case measure => simp [intOf]; omega
                  · have hin : n = i := by omega
                    subst hin
                    go_wp2_with fail
                    refine (awake_any _).mono ?_
                    rintro e w4 ⟨rfl, hb⟩
                    have HF := Lib.hid (HB.out.trans ((HL.out.trans (hb.mono HL.out.size)).mono HB.out.size))
                    clear hb
                    go_wp2_with fail
                    go_ret
                    exact ⟨rfl, HF.out⟩
      · obtain ⟨rfl, hb⟩ := loss_none hp HLB.out hall
        replace HB := Lib.hid (HB.out.trans (hb.mono HB.out.size))
        replace HSA := Lib.hid (HSA.out.mono hb)
        have HALL := Lib.hid hall
        clear hp hb HLS hall
        go_wp2_with fail
        refine (HWR.out _ HB.out).mono ?_
        intro e w3 hp
        obtain ⟨hb, j, hj, rfl⟩ := wrong_none hp HLB.out HALL.out
        replace HB := Lib.hid (HB.out.trans (hb.mono HB.out.size))
        replace HSA := Lib.hid (HSA.out.mono hb)
        clear hp hb HWR
        have hj0 : (0 : Int) ≤ (j : Int) := by omega
        have hj1 : (j : Int) < (n : Int) := by omega
        go_wp2_with fail
        refine (HZS.out _ HB.out).mono ?_
        rintro e W ⟨rfl, hb⟩
        rw [HLB.out]
        replace HB := Lib.hid (HB.out.trans (hb.mono HB.out.size))
        replace HSA := Lib.hid (HSA.out.mono hb)
        replace HA := Lib.hid (fun (V : World) (hV : Below W.heap.size W V) => HA.out V (HB.out.trans (hV.mono HB.out.size)))
        clear hb HZS HLB
        as_aux_lemma =>
          go_wp2_with fail
          go_loopw [9] (fun v9 wr => ∃ k : Nat, k ≤ n ∧ v9 = .int .i64 k ∧ Hid (Below W.heap.size W wr)) (fun v9 _ => n - (intOf v9).toNat)
          case atStart => exact ⟨0, Nat.zero_le _, rfl, Lib.hid (Below.refl _ _)⟩
          case round =>
            obtain ⟨k, hk, rfl, HL⟩ := hrel
            by_cases hlt : k < n
            · obtain ⟨b, off, hoa, hl, c0, c1, c2, c3, c4, c5, c6, c7, c8⟩ := (HA.out _ HL.out) k hlt
              subst hoa
              obtain ⟨ba, oa9, hoA, hla, a0, a1⟩ := (HSA.out.mono HL.out) k hlt
              subst hoA
              have HAF := Lib.hid (show ∀ V, Below W.heap.size W V → ba < V.heap.size ∧ V.cell? ⟨ba, oa9 + k * 2, none⟩ = some (.int .i64 (ownS (z k)).lo) ∧ V.cell? ⟨ba, oa9 + k * 2 + 1, none⟩ = some (.int .i64 (ownS (z k)).hi) from fun V hV => by
                obtain ⟨b9, o9, e9, h1, h2, h3⟩ := (HSA.out.mono hV) k hlt
                cases e9
                exact ⟨h1, h2, h3⟩)
              have HOK1 := Lib.hid (HOK.out k hlt)
              have HOS := Lib.hid (show ownS (z k) = if (z k).own.lo ≤ (z k).own.hi then (z k).own else ⟨1, 0⟩ from rfl)
              have HSU := Lib.hid (own_sums (HOK.out k hlt))
              have HBD := Lib.hid (Zon.own_bd (HOK.out k hlt))
              have HRR := Lib.hid (fun h : AllR z n => allR_own HTR.out h hlt)
              clear a0 a1 hla
              obtain ⟨sx, hsx⟩ : ∃ s, s = ownS (z k) := ⟨_, rfl⟩
              rw [← hsx] at HAF HOS
              clear hsx
              obtain ⟨ox, hox⟩ : ∃ s, s = (z k).own := ⟨_, rfl⟩
              rw [← hox] at HOS HSU HBD HRR
              clear hox
              obtain ⟨Z, hZ⟩ : ∃ Z, Z = z k := ⟨_, rfl⟩
              rw [← hZ] at c0 c1 c2 c3 c4 c5 c6 c7 c8 HOK1 HSU
              clear hZ
              obtain ⟨⟨ilo, ihi⟩, ⟨mlo, mhi⟩, ⟨elo, ehi⟩, ⟨llo, lhi⟩, p⟩ := Z
              obtain ⟨olo, ohi⟩ := ox
              simp only at c0 c1 c2 c3 c4 c5 c6 c7 c8 HSU HBD HOS
              have hk0 : (0 : Int) ≤ (k : Int) := by omega
              have hk1 : (k : Int) < (n : Int) := by omega
              go_upto_region 14 with fail
              have hbl := below_alloc1 wr (.cells #[.int .i64 ilo, .int .i64 ihi, .int .i64 mlo, .int .i64 mhi, .int .i64 elo, .int .i64 ehi, .int .i64 llo, .int .i64 lhi, .int .i64 p] 48)
              have hbx := Box.new (g := wr.heap.size) #[.int .i64 ilo, .int .i64 ihi, .int .i64 mlo, .int .i64 mhi, .int .i64 elo, .int .i64 ehi, .int .i64 llo, .int .i64 lhi, .int .i64 p] 48 wr rfl
              obtain ⟨gz, hG⟩ : ∃ G, G = wr.heap.size := ⟨_, rfl⟩
              obtain ⟨w2, hW⟩ : ∃ X, X = wr.alloc (.cells #[.int .i64 ilo, .int .i64 ihi, .int .i64 mlo, .int .i64 mhi, .int .i64 elo, .int .i64 ehi, .int .i64 llo, .int .i64 lhi, .int .i64 p] 48) := ⟨_, rfl⟩
              rw [← hW] at hbl hbx ⊢
              rw [← hG] at hbx ⊢
              replace HL := Lib.hid (HL.out.trans (hbl.mono HL.out.size))
              have HZB := Lib.hid hbx
              clear hbl hbx hW hG c0 c1 c2 c3 c4 c5 c6 c7 c8 hl wr
              by_cases hle : olo ≤ ohi
              · as_aux_lemma =>
                have HS9 := Lib.hid (show sx = ⟨olo, ohi⟩ by rw [HOS.out, if_pos hle])
                have ho1 := HS9.out
                subst ho1
                clear HS9 HOS HRR
                simp only at HAF
                have q0 : ∀ V : Aft w2, V.val.cell? ⟨ba, oa9 + k * 2, none⟩ = some (.int .i64 olo) := fun V => (HAF.out V.val (HL.out.trans (V.below.mono HL.out.size))).2.1
                have q1 : ∀ V : Aft w2, V.val.cell? ⟨ba, oa9 + k * 2 + 1, none⟩ = some (.int .i64 ohi) := fun V => (HAF.out V.val (HL.out.trans (V.below.mono HL.out.size))).2.2
                have q2 : ∀ V : Aft w2, ba < V.val.heap.size := fun V => (HAF.out V.val (HL.out.trans (V.below.mono HL.out.size))).1
                refine wp_region_aft (by kernel_rfl) (by kernel_rfl) ?_
                repeat (go_big_quiet_step (fail))
                refine wpQuiet_nil ?_
                intro WA
                obtain ⟨wy, hwy⟩ : ∃ X, X = WA.val := ⟨_, rfl⟩
                have hby := WA.below
                rw [← hwy] at hby ⊢
                clear hwy WA
                replace HL := Lib.hid (HL.out.trans (hby.mono HL.out.size))
                replace HZB := Lib.hid (HZB.out.below hby)
                clear hby q0 q1 q2 w2
                obtain ⟨w2, hw2⟩ : ∃ X, X = wy := ⟨_, rfl⟩
                rw [← hw2] at HL HZB ⊢
                clear hw2 wy
                go_upto_region 17 with fail
                have q0 : ∀ V : Aft w2, V.val.cell? ⟨ba, oa9 + k * 2, none⟩ = some (.int .i64 olo) := fun V => (HAF.out V.val (HL.out.trans (V.below.mono HL.out.size))).2.1
                have q1 : ∀ V : Aft w2, V.val.cell? ⟨ba, oa9 + k * 2 + 1, none⟩ = some (.int .i64 ohi) := fun V => (HAF.out V.val (HL.out.trans (V.below.mono HL.out.size))).2.2
                have q2 : ∀ V : Aft w2, ba < V.val.heap.size := fun V => (HAF.out V.val (HL.out.trans (V.below.mono HL.out.size))).1
                have q3 : ∀ V : Aft w2, V.val.cell? ⟨gz, 0, none⟩ = some (.int .i64 ilo) := fun V => (HZB.out.below V.below).cell 0 rfl
                have q4 : ∀ V : Aft w2, V.val.cell? ⟨gz, 1, none⟩ = some (.int .i64 ihi) := fun V => (HZB.out.below V.below).cell 1 rfl
                have q5 : ∀ V : Aft w2, V.val.cell? ⟨gz, 6, none⟩ = some (.int .i64 llo) := fun V => (HZB.out.below V.below).cell 6 rfl
                have q6 : ∀ V : Aft w2, V.val.cell? ⟨gz, 7, none⟩ = some (.int .i64 lhi) := fun V => (HZB.out.below V.below).cell 7 rfl
                have q7 : ∀ V : Aft w2, gz < V.val.heap.size := fun V => (HZB.out.below V.below).lt
                obtain ⟨⟨i1, i2, i3⟩, ⟨m1, m2, m3⟩, ⟨e1, e2, e3⟩, ⟨l1, l2, l3⟩⟩ := HOK1.out
                obtain ⟨o1, o2, o3, o4⟩ := HBD.out
                simp only at i1 i2 i3 m1 m2 m3 e1 e2 e3 l1 l2 l3
                refine wp_region_aft (by kernel_rfl) (by kernel_rfl) ?_
                repeat (go_big_quiet_step (fail))
                refine wpQuiet_nil ?_
                intro WA
                obtain ⟨wy, hwy⟩ : ∃ X, X = WA.val := ⟨_, rfl⟩
                have hby := WA.below
                rw [← hwy] at hby ⊢
                clear hwy WA
                replace HL := Lib.hid (HL.out.trans (hby.mono HL.out.size))
                replace HZB := Lib.hid (HZB.out.below hby)
                clear hby q0 q1 q2 q3 q4 q5 q6 q7 w2
                obtain ⟨s1, s2, s3, s4⟩ := HSU.out
                obtain ⟨x, hx⟩ : ∃ x, x = ilo - lhi - olo := ⟨_, rfl⟩
                obtain ⟨y, hy⟩ : ∃ y, y = ihi - llo - ohi := ⟨_, rfl⟩
                rw [← hx] at s1 s2 ⊢
                rw [← hy] at s3 s4 ⊢
                have hxb : -4294967296 ≤ x ∧ x ≤ 4294967295 := by omega
                have hyb : -4294967295 ≤ y ∧ y ≤ 4294967296 := by omega
                have b1 := mul_in (x := x) (f := 1000 + elo) (B := 4294967296) (C := 2000) (by omega) (by omega) (by omega) (by omega) (by omega)
                have b2 := mul_in (x := x + 1) (f := 1000 + elo) (B := 4294967296) (C := 2000) (by omega) (by omega) (by omega) (by omega) (by omega)
                have b3 := mul_in (x := y) (f := 1000 + ehi) (B := 4294967296) (C := 2000) (by omega) (by omega) (by omega) (by omega) (by omega)
                have b4 := mul_in (x := y - 1) (f := 1000 + ehi) (B := 4294967296) (C := 2000) (by omega) (by omega) (by omega) (by omega) (by omega)
                clear hx hy
                have d0 := HZB.out.cell 2 (v := .int .i64 mlo) rfl
                have d1 := HZB.out.cell 3 (v := .int .i64 mhi) rfl
                have d2 := HZB.out.cell 4 (v := .int .i64 elo) rfl
                have d3 := HZB.out.cell 5 (v := .int .i64 ehi) rfl
                have d4 := HZB.out.lt
                obtain ⟨d5, d6, -⟩ := HAF.out _ HL.out
                obtain ⟨p1, hp1⟩ : ∃ q, q = x * (1000 + elo) := ⟨_, rfl⟩
                obtain ⟨p2, hp2⟩ : ∃ q, q = (x + 1) * (1000 + elo) := ⟨_, rfl⟩
                obtain ⟨p3, hp3⟩ : ∃ q, q = y * (1000 + ehi) := ⟨_, rfl⟩
                obtain ⟨p4, hp4⟩ : ∃ q, q = (y - 1) * (1000 + ehi) := ⟨_, rfl⟩
                have t1 : ¬ 1000 * mhi < x * (1000 + elo) := by omega
                have t3 : ¬ y * (1000 + ehi) < 1000 * mlo := by omega
                have t4 : ¬ 1000 * mlo ≤ (y - 1) * (1000 + ehi) := by omega
                have t1' : decide (1000 * mhi < x * (1000 + elo)) = false := decide_eq_false t1
                have t3' : decide (y * (1000 + ehi) < 1000 * mlo) = false := decide_eq_false t3
                have t4' : decide (1000 * mlo ≤ (y - 1) * (1000 + ehi)) = false := decide_eq_false t4
                clear hp1 hp2 hp3 hp4 s1 s3 s4 p1 p2 p3 p4
                by_cases hpos : 0 < olo
                · as_aux_lemma =>
                  have t2 : ¬ (x + 1) * (1000 + elo) ≤ 1000 * mhi := by have := s2 hpos; omega
                  have t2' : decide ((x + 1) * (1000 + elo) ≤ 1000 * mhi) = false := decide_eq_false t2
                  have t5' : decide (0 < olo) = true := decide_eq_true hpos
                  clear s2
                  go_wp2_with fail
                  go_roundw
                  case rel => exact ⟨k + 1, by omega, by go_num, HL⟩
                  case measure => simp [intOf]; omega
                · as_aux_lemma =>
                  have t5' : decide (0 < olo) = false := decide_eq_false hpos
                  clear s2
                  go_wp2_with fail
                  go_roundw
                  case rel => exact ⟨k + 1, by omega, by go_num, HL⟩
                  case measure => simp [intOf]; omega
              · skip
                have HS9 := Lib.hid (show sx = ⟨1, 0⟩ by rw [HOS.out, if_neg hle])
                have ho1 := HS9.out
                subst ho1
                clear HS9 HOS HRR HSU HBD hle
                simp only at HAF
                have q0 : ∀ V : Aft w2, V.val.cell? ⟨ba, oa9 + k * 2, none⟩ = some (.int .i64 1) := fun V => (HAF.out V.val (HL.out.trans (V.below.mono HL.out.size))).2.1
                have q1 : ∀ V : Aft w2, V.val.cell? ⟨ba, oa9 + k * 2 + 1, none⟩ = some (.int .i64 0) := fun V => (HAF.out V.val (HL.out.trans (V.below.mono HL.out.size))).2.2
                have q2 : ∀ V : Aft w2, ba < V.val.heap.size := fun V => (HAF.out V.val (HL.out.trans (V.below.mono HL.out.size))).1
                refine wp_region_aft (by kernel_rfl) (by kernel_rfl) ?_
                repeat (go_big_quiet_step (fail))
                refine wpQuiet_nil ?_
                intro WA
                obtain ⟨wy, hwy⟩ : ∃ X, X = WA.val := ⟨_, rfl⟩
                have hby := WA.below
                rw [← hwy] at hby ⊢
                clear hwy WA
                replace HL := Lib.hid (HL.out.trans (hby.mono HL.out.size))
                clear hby q0 q1 q2 HZB w2
                obtain ⟨w2, hw2⟩ : ∃ X, X = wy := ⟨_, rfl⟩
                rw [← hw2] at HL ⊢
                clear hw2 wy
                go_upto_region 15 with fail
                have q0 : ∀ V : Aft w2, V.val.cell? ⟨ba, oa9 + k * 2, none⟩ = some (.int .i64 1) := fun V => (HAF.out V.val (HL.out.trans (V.below.mono HL.out.size))).2.1
                have q1 : ∀ V : Aft w2, V.val.cell? ⟨ba, oa9 + k * 2 + 1, none⟩ = some (.int .i64 0) := fun V => (HAF.out V.val (HL.out.trans (V.below.mono HL.out.size))).2.2
                have q2 : ∀ V : Aft w2, ba < V.val.heap.size := fun V => (HAF.out V.val (HL.out.trans (V.below.mono HL.out.size))).1
                have hcm : ∀ V : World, (binOp .neq 41 (.agg #[.int .i64 1, .int .i64 0]) (.agg #[.int .i64 1, .int .i64 0])).run Try.prog V = .ok (.bool false) V := fun V => neq41 ⟨1, 0⟩ ⟨1, 0⟩ V
                refine wp_region_aft (by kernel_rfl) (by kernel_rfl) ?_
                repeat (go_big_quiet_step ((go_at_call 26; exact aft_call (lspan_any _ _ _))))
                refine wpQuiet_nil ?_
                intro WA
                obtain ⟨wy, hwy⟩ : ∃ X, X = WA.val := ⟨_, rfl⟩
                have hby := WA.below
                rw [← hwy] at hby ⊢
                clear hwy WA
                replace HL := Lib.hid (HL.out.trans (hby.mono HL.out.size))
                clear hby q0 q1 q2 hcm w2
                go_wp2_with fail
                go_roundw
                case rel => exact ⟨k + 1, by omega, by go_num, HL⟩
                case measure => simp [intOf]; omega
            · have hkn : n = k := by omega
              subst hkn
              clear HSA
              as_aux_lemma =>
                go_wp2_with fail
                refine (awake_any _).mono ?_
                rintro e w4 ⟨rfl, hb⟩
                have HF := Lib.hid (HB.out.trans ((HL.out.trans (hb.mono HL.out.size)).mono HB.out.size))
                clear hb
                go_wp2_with fail
                go_ret
                exact ⟨rfl, HF.out⟩
end Go.Proofs.Ytipnaeijbbbdoaa
