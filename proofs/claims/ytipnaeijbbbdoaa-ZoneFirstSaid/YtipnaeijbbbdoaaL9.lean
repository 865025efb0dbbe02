/- Zone: ZoneFirst returns true. -/
import Derived.Test.YtipnaeijbbbdoaaF9
namespace Go.Proofs.Ytipnaeijbbbdoaa
open Go.RowKit
theorem leak_in {x : Nig} {a b c : Int} (h : nigB x = false) (a1 : x.f.lo ≤ a) (a2 : a ≤ x.f.hi) (b1 : x.u.lo ≤ b) (b2 : b ≤ x.u.hi) (c1 : x.h.lo ≤ c) (c2 : c ≤ x.h.hi) :
    (leakS x).lo ≤ max 0 (a - b) * c ∧ max 0 (a - b) * c ≤ (leakS x).hi ∧ 0 ≤ (leakS x).lo ∧ (leakS x).hi ≤ 1073741824000 := by
  obtain ⟨f1, u1, h1⟩ := nigB_spec h
  have e1 : (leakS x).lo = max 0 (x.f.lo - x.u.hi) * x.h.lo := rfl
  have e2 : (leakS x).hi = max 0 (x.f.hi - x.u.lo) * x.h.hi := rfl
  rw [e1, e2]
  refine ⟨Int.mul_le_mul (by omega) c1 (by omega) (by omega), Int.mul_le_mul (by omega) c2 (by omega) (by omega), Int.mul_nonneg (by omega) (by omega), ?_⟩
  exact (mul_bd (a := max 0 (x.f.hi - x.u.lo)) (b := x.h.hi) (A := 1073741824) (B := 1000) (by omega) (by omega) (by omega) (by omega)).2
/-- the boxes of ZoneFirst -/
structure Zf (w : World) (oa : Option Addr) (n ca g4 : Nat) (oc : Option Addr) (h cc g6 : Nat) (W : World) : Prop where
  low : Below w.heap.size w W
  z : Box g4 #[.slice oa n ca] 22 W
  b : Box g6 #[.slice oc h cc] 36 W
theorem Zf.on {w : World} {oa : Option Addr} {n ca g4 : Nat} {oc : Option Addr} {h cc g6 : Nat} {W V : World} (H : Zf w oa n ca g4 oc h cc g6 W) (hb : Below W.heap.size W V) : Zf w oa n ca g4 oc h cc g6 V := ⟨H.low.trans (hb.mono H.low.size), H.z.below hb, H.b.below hb⟩
theorem first_no {n m : Nat} {z : Nat → Zon} {u : Nat → Nig} {w w' : World} {e : Ending} (H : FirstP n m z u w e w') (hc : leakC n m z u ≠ 0) : e = .returned (.tuple #[.int .i64 0, .int .i64 (leakC n m z u)]) ∧ Below w.heap.size w w' := by
  obtain ⟨hb, ⟨-, h⟩ | ⟨h, -⟩ | ⟨h, -⟩⟩ := H
  · exact ⟨h, hb⟩
  · exact absurd h hc
  · exact absurd h hc
theorem first_none {n m : Nat} {z : Nat → Zon} {u : Nat → Nig} {w w' : World} {e : Ending} (H : FirstP n m z u w e w') (hc : leakC n m z u = 0) (ha : ¬ AllR z n) : e = .returned (.tuple #[.int .i64 0, .int .i64 6]) ∧ Below w.heap.size w w' := by
  obtain ⟨hb, ⟨h, -⟩ | ⟨-, -, h⟩ | ⟨-, h, -⟩⟩ := H
  · exact absurd hc h
  · exact ⟨h, hb⟩
  · exact absurd h ha
theorem first_all {n m : Nat} {z : Nat → Zon} {u : Nat → Nig} {w w' : World} {e : Ending} (H : FirstP n m z u w e w') (hc : leakC n m z u = 0) (ha : AllR z n) : Below w.heap.size w w' ∧ ∃ most x c, e = .returned (.tuple #[.int .i64 x, .int .i64 c]) ∧ FstS (Leaf z n) (fun i => knV (dnF z n i) (leakS (u i))) n most x c := by
  obtain ⟨hb, ⟨h, -⟩ | ⟨-, h, -⟩ | ⟨-, -, h⟩⟩ := H
  · exact absurd hc h
  · exact absurd ha h
  · exact ⟨hb, h⟩
set_option maxRecDepth 100000 in
set_option maxHeartbeats 16000000 in
theorem zoneFirst_any (oa : Option Addr) (n ca : Nat) (z : Nat → Zon) (ob : Option Addr) (m cb : Nat) (u : Nat → Nig) (oc : Option Addr) (h cc : Nat) (v : Nat → Nat) (x : Nat) (w : World) (hA : ZonsAt w oa n z) (hU : NigsAt w ob m u) (hh : h ≤ 9223372036854775807) (hV : U16sAt w oc h v) (hx : x < 256) :
    Calls Try.prog 9 #[.slice oa n ca, .slice ob m cb, .slice oc h cc, .int .u8 x] w fun e w' => e = .returned (.bool true) ∧ Below w.heap.size w w' := by
  have HA := Lib.hid (fun (V : World) (hb : Below w.heap.size w V) => hA.mono hb)
  have HU := Lib.hid (fun (V : World) (hb : Below w.heap.size w V) => hU.mono hb)
  have HV := Lib.hid (fun (V : World) (hb : Below w.heap.size w V) => hV.mono hb)
  clear hA hU hV
  go_enter Try.func9, Try.ntmps9
  go_upto_region 1 with fail
  have hb0 := (below_alloc1 w (.cells #[.slice oa n ca] 22)).alloc (by simp) (.cells #[.slice oc h cc] 36)
  have hB4 := (Box.new (g := w.heap.size) #[.slice oa n ca] 22 w rfl).old (.cells #[.slice oc h cc] 36)
  have hB6 := Box.new (g := w.heap.size + 1) #[.slice oc h cc] 36 (w.alloc (.cells #[.slice oa n ca] 22)) (by simp)
  obtain ⟨W0, hW⟩ : ∃ X, X = (w.alloc (.cells #[.slice oa n ca] 22)).alloc (.cells #[.slice oc h cc] 36) := ⟨_, rfl⟩
  rw [← hW] at hb0 hB4 hB6 ⊢
  clear hW
  obtain ⟨g6, hg6⟩ : ∃ G, G = w.heap.size + 1 := ⟨_, rfl⟩
  rw [← hg6] at hB6 ⊢
  obtain ⟨g4, hg4⟩ : ∃ G, G = w.heap.size := ⟨_, rfl⟩
  rw [← hg4] at hB4 ⊢
  have HF := Lib.hid (show Zf w oa n ca g4 oc h cc g6 W0 from ⟨hb0, hB4, hB6⟩)
  clear hb0 hB4 hB6 hg4 hg6
  have c4 := HF.out.z.cell 0 (v := .slice oa n ca) rfl
  have l4 := HF.out.z.lt
  have c6 := HF.out.b.cell 0 (v := .slice oc h cc) rfl
  have l6 := HF.out.b.lt
  by_cases h16 : 16 < n
  · have h16' : (16 : Int) < (n : Int) := by omega
    go_wp2_with fail
    refine (awake_any _).mono ?_
    rintro e wz ⟨rfl, hb⟩
    replace HF := Lib.hid (HF.out.on hb)
    go_wp2_with fail
    go_ret
    exact ⟨rfl, HF.out.low⟩
  have h16' : ¬ (16 : Int) < (n : Int) := by omega
  by_cases h20 : 20 < m
  · have h20' : (20 : Int) < (m : Int) := by omega
    go_wp2_with fail
    refine (awake_any _).mono ?_
    rintro e wz ⟨rfl, hb⟩
    replace HF := Lib.hid (HF.out.on hb)
    go_wp2_with fail
    go_ret
    exact ⟨rfl, HF.out.low⟩
  have h20' : ¬ (20 : Int) < (m : Int) := by omega
  by_cases hh0 : h = 0
  · subst hh0
    go_wp2_with fail
    refine (awake_any _).mono ?_
    rintro e wz ⟨rfl, hb⟩
    replace HF := Lib.hid (HF.out.on hb)
    go_wp2_with fail
    go_ret
    exact ⟨rfl, HF.out.low⟩
  replace hh0 : 0 < h := by omega
  have hh9 : ((h : Int) == 0) = false := by simp; omega
  go_upto_region 3 with fail
  clear h16' h20' hh9 c6 l6
  have hn : n ≤ 16 := by omega
  have hm : m ≤ 20 := by omega
  clear h16 h20
  have HLK := Lib.hid (fun (V : World) (hb : Below w.heap.size w V) => leaks_any oa ob n ca m cb z u V (by omega) (by omega) (HA.out V hb) (HU.out V hb))
  have HFI := Lib.hid (fun (V : World) (hb : Below w.heap.size w V) => first_any oa ob n ca m cb z u V (by omega) (by omega) (HA.out V hb) (HU.out V hb))
  have HLS := Lib.hid (fun (V : World) (hb : Below w.heap.size w V) => losses_any oa n ca z V (by omega) (HA.out V hb))
  have HZS := Lib.hid (fun (V : World) (hb : Below w.heap.size w V) => zones_any oa n ca z V (by omega) (HA.out V hb))
  go_wp2_with fail
  refine (HLK.out _ HF.out.low).mono ?_
  intro e w1 hp
  obtain ⟨hb, ⟨hc, hc0, hc3, rfl⟩ | ⟨hc, hlb, hmn, hok, oL, cL, rfl, hsp, -⟩⟩ := leakP_cases hp
  · replace HF := Lib.hid (HF.out.on hb)
    have HC := Lib.hid hc
    have HFN := Lib.hid (fun V V' e (H : FirstP n m z u V e V') => first_no H HC.out)
    have hne : (leakC n m z u != 0) = true := by simpa using hc
    obtain ⟨c, hcc⟩ : ∃ c, c = leakC n m z u := ⟨_, rfl⟩
    rw [← hcc] at hne hc0 hc3 HFN ⊢
    clear hp hb hcc hc HC HLK c4 l4
    go_upto_region 4 with fail
    have HK9 := Lib.hid (Box.new (g := w1.heap.size) #[.slice none 0 0] 24 w1 rfl)
    replace HF := Lib.hid (HF.out.on (below_alloc1 w1 (.cells #[.slice none 0 0] 24)))
    obtain ⟨g9, hg9⟩ : ∃ G, G = w1.heap.size := ⟨_, rfl⟩
    obtain ⟨W1, hW⟩ : ∃ X, X = w1.alloc (.cells #[.slice none 0 0] 24) := ⟨_, rfl⟩
    rw [← hW] at HK9 HF ⊢
    rw [← hg9] at HK9 ⊢
    clear hW hg9
    have c4 := HF.out.z.cell 0 (v := .slice oa n ca) rfl
    have l4 := HF.out.z.lt
    go_wp2_with fail
    refine (HFI.out _ HF.out.low).mono ?_
    intro e w2 hp
    obtain ⟨rfl, hb⟩ := HFN.out _ _ _ hp
    replace HF := Lib.hid (HF.out.on hb)
    replace HK9 := Lib.hid (HK9.out.below hb)
    have c9 := HK9.out.cell 0 (v := .slice none 0 0) rfl
    have l9 := HK9.out.lt
    have hcb : (c == c) = true := by simp
    clear hp hb HFN HFI c4 l4
    go_wp2_with fail
    refine (awake_any _).mono ?_
    rintro e wz ⟨rfl, hb⟩
    replace HF := Lib.hid (HF.out.on hb)
    go_wp2_with fail
    go_ret
    exact ⟨rfl, HF.out.low⟩
  · replace HF := Lib.hid (HF.out.on hb)
    have HC := Lib.hid hc
    have HOK := Lib.hid hok
    have HLB := Lib.hid hlb
    have hn1 : 1 ≤ n := (listB_spec hlb).1
    obtain ⟨bL, oL9, hoL, -⟩ := hsp 0 (by omega)
    subst hoL
    have HSL := Lib.hid hsp
    clear hp hb hc hok hsp HLK c4 l4
    subst hmn
    obtain ⟨n, rfl⟩ : ∃ k, k = m := ⟨_, rfl⟩
    go_upto_region 4 with fail
    have HK9 := Lib.hid (Box.new (g := w1.heap.size) #[.slice (some ⟨bL, oL9, none⟩) n cL] 24 w1 rfl)
    replace HF := Lib.hid (HF.out.on (below_alloc1 w1 (.cells #[.slice (some ⟨bL, oL9, none⟩) n cL] 24)))
    replace HSL := Lib.hid (HSL.out.mono (below_alloc1 w1 (.cells #[.slice (some ⟨bL, oL9, none⟩) n cL] 24)))
    obtain ⟨g9, hg9⟩ : ∃ G, G = w1.heap.size := ⟨_, rfl⟩
    obtain ⟨W1, hW⟩ : ∃ X, X = w1.alloc (.cells #[.slice (some ⟨bL, oL9, none⟩) n cL] 24) := ⟨_, rfl⟩
    rw [← hW] at HK9 HF HSL ⊢
    rw [← hg9] at HK9 ⊢
    clear hW hg9
    have c4 := HF.out.z.cell 0 (v := .slice oa n ca) rfl
    have l4 := HF.out.z.lt
    go_wp2_with fail
    refine (HFI.out _ HF.out.low).mono ?_
    intro e w2 hp
    by_cases hall : AllR z n
    · obtain ⟨hb, most, X, c, rfl, hfs⟩ := first_all hp HC.out hall
      have HFS := Lib.hid hfs
      have HV0 := Lib.hid (show ∀ j, j < n → 0 ≤ knV (dnF z n j) (leakS (u j)) from fun j hj => by
        obtain ⟨-, -, hz, hok⟩ := listB_spec HLB.out
        have := dn_bd hz hok hall hj
        unfold knV
        omega)
      have HALL := Lib.hid hall
      replace HF := Lib.hid (HF.out.on hb)
      replace HK9 := Lib.hid (HK9.out.below hb)
      replace HSL := Lib.hid (HSL.out.mono hb)
      clear hp hb hfs hall c4 l4 HFI
      have c4 := HF.out.z.cell 0 (v := .slice oa n ca) rfl
      have l4 := HF.out.z.lt
      go_wp2_with fail
      refine (HLS.out _ HF.out.low).mono ?_
      intro e w3 hp
      obtain ⟨hb, oD, cD, rfl, hsd, -⟩ := loss_all hp HLB.out HALL.out
      obtain ⟨bD, oD9, hoD, -⟩ := hsd 0 (by omega)
      subst hoD
      have HSD := Lib.hid hsd
      replace HF := Lib.hid (HF.out.on hb)
      replace HK9 := Lib.hid (HK9.out.below hb)
      replace HSL := Lib.hid (HSL.out.mono hb)
      clear hp hb hsd HLS HALL c4 l4
      go_upto_region 8 with fail
      have HK13 := Lib.hid (Box.new (g := w3.heap.size) #[.slice (some ⟨bD, oD9, none⟩) n cD] 24 w3 rfl)
      replace HF := Lib.hid (HF.out.on (below_alloc1 w3 (.cells #[.slice (some ⟨bD, oD9, none⟩) n cD] 24)))
      replace HSL := Lib.hid (HSL.out.mono (below_alloc1 w3 (.cells #[.slice (some ⟨bD, oD9, none⟩) n cD] 24)))
      replace HSD := Lib.hid (HSD.out.mono (below_alloc1 w3 (.cells #[.slice (some ⟨bD, oD9, none⟩) n cD] 24)))
      replace HK9 := Lib.hid (HK9.out.below (below_alloc1 w3 (.cells #[.slice (some ⟨bD, oD9, none⟩) n cD] 24)))
      obtain ⟨g13, hg⟩ : ∃ G, G = w3.heap.size := ⟨_, rfl⟩
      obtain ⟨W3, hW⟩ : ∃ X, X = w3.alloc (.cells #[.slice (some ⟨bD, oD9, none⟩) n cD] 24) := ⟨_, rfl⟩
      rw [← hW] at HK9 HF HSL HSD HK13 ⊢
      rw [← hg] at HK13 ⊢
      clear hW hg
      have c4 := HF.out.z.cell 0 (v := .slice oa n ca) rfl
      have l4 := HF.out.z.lt
      have c9 := HK9.out.cell 0 (v := .slice (some ⟨bL, oL9, none⟩) n cL) rfl
      have l9 := HK9.out.lt
      have hnn : ((n : Int) != (n : Int)) = false := by simp
      go_wp2_with fail
      refine (HZS.out _ HF.out.low).mono ?_
      rintro e W ⟨rfl, hb⟩
      rw [HLB.out]
      replace HF := Lib.hid (HF.out.on hb)
      replace HK9 := Lib.hid (HK9.out.below hb)
      replace HK13 := Lib.hid (HK13.out.below hb)
      replace HSL := Lib.hid (HSL.out.mono hb)
      replace HSD := Lib.hid (HSD.out.mono hb)
      clear hb HZS c4 l4 c9 l9 hnn
      as_aux_lemma =>
        have HFW := Lib.hid (show ∀ V, Below W.heap.size W V → Zf w oa n ca g4 oc h cc g6 V from fun V hV => HF.out.on hV)
        have HU1 := Lib.hid (show ∀ V, Below W.heap.size W V → NigsAt V ob n u from fun V hV => HU.out V (HF.out.on hV).low)
        have HV1 := Lib.hid (show ∀ V, Below W.heap.size W V → U16sAt V oc h v from fun V hV => HV.out V (HF.out.on hV).low)
        go_wp2_with fail
        go_loopw [16] (fun v16 wr => ∃ k : Nat, k ≤ n ∧ v16 = .int .i64 k ∧ Hid (Below W.heap.size W wr)) (fun v16 _ => n - (intOf v16).toNat)
        case atStart => exact ⟨0, Nat.zero_le _, rfl, Lib.hid (Below.refl _ _)⟩
        case round =>
          obtain ⟨k, hk, rfl, HL⟩ := hrel
          by_cases hlt : k < n
          · as_aux_lemma =>
            have hk0 : (0 : Int) ≤ (k : Int) := by omega
            have hk1 : (k : Int) < (n : Int) := by omega
            obtain ⟨b, off, hob, hl, c0, c1, c2, c3, c4, c5⟩ := (HU1.out _ HL.out) k hlt
            subst hob
            have HNS := Lib.hid (nigB_spec (HOK.out k hlt))
            have HNL := Lib.hid (fun a b c => leak_in (a := a) (b := b) (c := c) (HOK.out k hlt))
            have HCF := Lib.hid (show ∀ V, Below W.heap.size W V → bL < V.heap.size ∧ V.cell? ⟨bL, oL9 + k * 2, none⟩ = some (.int .i64 (leakS (u k)).lo) ∧ V.cell? ⟨bL, oL9 + k * 2 + 1, none⟩ = some (.int .i64 (leakS (u k)).hi) from fun V hV => by
              obtain ⟨b9, o9, e9, h1, h2, h3⟩ := (HSL.out.mono hV) k hlt
              cases e9
              exact ⟨h1, h2, h3⟩)
            obtain ⟨LS, hLS⟩ : ∃ L, L = leakS (u k) := ⟨_, rfl⟩
            rw [← hLS] at HCF
            simp only [← hLS] at HNL
            clear hLS
            obtain ⟨Z, hZ⟩ : ∃ Z, Z = u k := ⟨_, rfl⟩
            rw [← hZ] at c0 c1 c2 c3 c4 c5 HNS
            simp only [← hZ] at HNL
            clear hZ
            obtain ⟨⟨flo, fhi⟩, ⟨ulo, uhi⟩, ⟨hlo, hhi⟩⟩ := Z
            obtain ⟨llo, lhi⟩ := LS
            simp only at c0 c1 c2 c3 c4 c5 HNS HNL HCF
            go_upto_region 15 with fail
            have hbl := below_alloc1 wr (.cells #[.int .i64 flo, .int .i64 fhi, .int .i64 ulo, .int .i64 uhi, .int .i64 hlo, .int .i64 hhi] 54)
            have hbx := Box.new (g := wr.heap.size) #[.int .i64 flo, .int .i64 fhi, .int .i64 ulo, .int .i64 uhi, .int .i64 hlo, .int .i64 hhi] 54 wr rfl
            obtain ⟨gz, hG⟩ : ∃ G, G = wr.heap.size := ⟨_, rfl⟩
            obtain ⟨w2, hW⟩ : ∃ X, X = wr.alloc (.cells #[.int .i64 flo, .int .i64 fhi, .int .i64 ulo, .int .i64 uhi, .int .i64 hlo, .int .i64 hhi] 54) := ⟨_, rfl⟩
            rw [← hW] at hbl hbx ⊢
            rw [← hG] at hbx ⊢
            replace HL := Lib.hid (HL.out.trans (hbl.mono HL.out.size))
            have HBX := Lib.hid hbx
            clear hbl hbx hW hG c0 c1 c2 c3 c4 c5 hl wr
            obtain ⟨⟨f1, f2, f3⟩, ⟨u1, u2, u3⟩, v1, v2, v3⟩ := HNS.out
            have HP1 := Lib.hid (fun (V : World) (hV : Below W.heap.size W V) => pick_any ⟨flo, fhi⟩ (k : Int) k h cc g6 oc v V rfl (by omega) hh0 hh f1 f2 f3 (HFW.out V hV).b (HV1.out V hV))
            have HP2 := Lib.hid (fun (V : World) (hV : Below W.heap.size W V) => pick_any ⟨ulo, uhi⟩ ((k : Int) + 1) (k + 1) h cc g6 oc v V (by omega) (by omega) hh0 hh u1 u2 u3 (HFW.out V hV).b (HV1.out V hV))
            have HP3 := Lib.hid (fun (V : World) (hV : Below W.heap.size W V) => pick_any ⟨hlo, hhi⟩ ((k : Int) + 2) (k + 2) h cc g6 oc v V (by omega) (by omega) hh0 hh v1 v2 (by simp only; omega) (HFW.out V hV).b (HV1.out V hV))
            have p1 := pickV_in (s := ⟨flo, fhi⟩) (k := k) (m := h) (u := v) f2
            have p2 := pickV_in (s := ⟨ulo, uhi⟩) (k := k + 1) (m := h) (u := v) u2
            have p3 := pickV_in (s := ⟨hlo, hhi⟩) (k := k + 2) (m := h) (u := v) v2
            obtain ⟨pa, hpa⟩ : ∃ x, x = pickV ⟨flo, fhi⟩ k h v := ⟨_, rfl⟩
            obtain ⟨pb, hpb⟩ : ∃ x, x = pickV ⟨ulo, uhi⟩ (k + 1) h v := ⟨_, rfl⟩
            obtain ⟨pc, hpc⟩ : ∃ x, x = pickV ⟨hlo, hhi⟩ (k + 2) h v := ⟨_, rfl⟩
            rw [← hpa] at p1
            simp only [← hpa] at HP1
            rw [← hpb] at p2
            simp only [← hpb] at HP2
            rw [← hpc] at p3
            simp only [← hpc] at HP3
            clear hpa hpb hpc
            simp only at p1 p2 p3
            obtain ⟨n1, n2, n3, n4⟩ := HNL.out pa pb pc p1.1 p1.2 p2.1 p2.2 p3.1 p3.2
            have hmx : (if pb < pa then pa - pb else 0) = max 0 (pa - pb) := by split <;> omega
            obtain ⟨mx, hm9⟩ : ∃ x, x = max 0 (pa - pb) := ⟨_, rfl⟩
            rw [← hm9] at hmx n1 n2
            clear hm9 HNL HNS
            have b1 : -9223372036854775808 ≤ mx * pc ∧ mx * pc ≤ 9223372036854775807 := by omega
            have b2 : -1073741824 ≤ pa - pb ∧ pa - pb ≤ 1073741824 := by omega
            have hCC : ∀ A B : World, Below w2.heap.size w2 A → Below A.heap.size A B → Below w2.heap.size w2 B := fun A B h1 h2 => h1.trans (h2.mono h1.size)
            have hC0 : Below w2.heap.size w2 w2.drew := (Below.refl _ _).drew
            refine wp_region_garb (Below w2.heap.size w2) (by kernel_rfl) ?_
            (refine wpAnyG_take (i := 0) hCC hC0 rfl (by kernel_rfl) (by kernel_rfl) (by kernel_rfl) (fun _ _ _ _ h => h) (by rfl) ?_; apply Exists.intro; refine ⟨fun w1 h1 K hK => ?_, ?_⟩; · ( go_big_quiet_op; first | exact hK | fail))
            (refine wpAnyG_take (i := 1) hCC hC0 rfl (by kernel_rfl) (by kernel_rfl) (by kernel_rfl) (fun _ _ _ _ h => h) (by rfl) ?_; apply Exists.intro; refine ⟨fun w1 h1 K hK => ?_, ?_⟩; · (have q9 : ∀ V : Aft w1, gz < V.val.heap.size := fun V => (HBX.out.below (hCC _ _ h1 V.below)).lt; go_big_quiet_op; first | exact hK | fail))
            (refine wpAnyG_take (i := 2) hCC hC0 rfl (by kernel_rfl) (by kernel_rfl) (by kernel_rfl) (fun _ _ _ _ h => h) (by rfl) ?_; apply Exists.intro; refine ⟨fun w1 h1 K hK => ?_, ?_⟩; · (have q8 : ∀ V : Aft w1, V.val.cell? ⟨gz, 0, none⟩ = some (.int .i64 flo) := fun V => (HBX.out.below (hCC _ _ h1 V.below)).cell 0 rfl; have q9 : ∀ V : Aft w1, V.val.cell? ⟨gz, 1, none⟩ = some (.int .i64 fhi) := fun V => (HBX.out.below (hCC _ _ h1 V.below)).cell 1 rfl; go_big_quiet_op; first | exact hK | fail))
            (refine wpAnyG_take (i := 3) hCC hC0 rfl (by kernel_rfl) (by kernel_rfl) (by kernel_rfl) (fun _ _ _ _ h => h) (by rfl) ?_; apply Exists.intro; refine ⟨fun w1 h1 K hK => ?_, ?_⟩; · ( go_big_quiet_op; first | exact hK | fail))
            (refine wpAnyG_take (i := 4) hCC hC0 rfl (by kernel_rfl) (by kernel_rfl) (by kernel_rfl) (fun _ _ _ _ h => h) (by rfl) ?_; apply Exists.intro; refine ⟨fun w1 h1 K hK => ?_, ?_⟩; · ( go_big_quiet_op; first | exact hK | exact ⟨_, fun V => aft_call (HP1.out V.val (HL.out.trans ((hCC _ _ h1 V.below).mono HL.out.size))), hK⟩))
            (refine wpAnyG_take (i := 5) hCC hC0 rfl (by kernel_rfl) (by kernel_rfl) (by kernel_rfl) (fun _ _ _ _ h => h) (by rfl) ?_; apply Exists.intro; refine ⟨fun w1 h1 K hK => ?_, ?_⟩; · ( go_big_quiet_op; first | exact hK | fail))
            (refine wpAnyG_take (i := 6) hCC hC0 rfl (by kernel_rfl) (by kernel_rfl) (by kernel_rfl) (fun _ _ _ _ h => h) (by rfl) ?_; apply Exists.intro; refine ⟨fun w1 h1 K hK => ?_, ?_⟩; · (have q9 : ∀ V : Aft w1, gz < V.val.heap.size := fun V => (HBX.out.below (hCC _ _ h1 V.below)).lt; go_big_quiet_op; first | exact hK | fail))
            (refine wpAnyG_take (i := 7) hCC hC0 rfl (by kernel_rfl) (by kernel_rfl) (by kernel_rfl) (fun _ _ _ _ h => h) (by rfl) ?_; apply Exists.intro; refine ⟨fun w1 h1 K hK => ?_, ?_⟩; · (have q8 : ∀ V : Aft w1, V.val.cell? ⟨gz, 2, none⟩ = some (.int .i64 ulo) := fun V => (HBX.out.below (hCC _ _ h1 V.below)).cell 2 rfl; have q9 : ∀ V : Aft w1, V.val.cell? ⟨gz, 3, none⟩ = some (.int .i64 uhi) := fun V => (HBX.out.below (hCC _ _ h1 V.below)).cell 3 rfl; go_big_quiet_op; first | exact hK | fail))
            (refine wpAnyG_take (i := 8) hCC hC0 rfl (by kernel_rfl) (by kernel_rfl) (by kernel_rfl) (fun _ _ _ _ h => h) (by rfl) ?_; apply Exists.intro; refine ⟨fun w1 h1 K hK => ?_, ?_⟩; · ( go_big_quiet_op; first | exact hK | fail))
            (refine wpAnyG_take (i := 9) hCC hC0 rfl (by kernel_rfl) (by kernel_rfl) (by kernel_rfl) (fun _ _ _ _ h => h) (by rfl) ?_; apply Exists.intro; refine ⟨fun w1 h1 K hK => ?_, ?_⟩; · ( go_big_quiet_op; first | exact hK | fail))
            (refine wpAnyG_take (i := 10) hCC hC0 rfl (by kernel_rfl) (by kernel_rfl) (by kernel_rfl) (fun _ _ _ _ h => h) (by rfl) ?_; apply Exists.intro; refine ⟨fun w1 h1 K hK => ?_, ?_⟩; · ( go_big_quiet_op; first | exact hK | exact ⟨_, fun V => aft_call (HP2.out V.val (HL.out.trans ((hCC _ _ h1 V.below).mono HL.out.size))), hK⟩))
            (refine wpAnyG_take (i := 11) hCC hC0 rfl (by kernel_rfl) (by kernel_rfl) (by kernel_rfl) (fun _ _ _ _ h => h) (by rfl) ?_; apply Exists.intro; refine ⟨fun w1 h1 K hK => ?_, ?_⟩; · ( go_big_quiet_op; first | exact hK | fail))
            (refine wpAnyG_take (i := 12) hCC hC0 rfl (by kernel_rfl) (by kernel_rfl) (by kernel_rfl) (fun _ _ _ _ h => h) (by rfl) ?_; apply Exists.intro; refine ⟨fun w1 h1 K hK => ?_, ?_⟩; · ( go_big_quiet_op; first | exact hK | fail))
            (refine wpAnyG_take (i := 13) hCC hC0 rfl (by kernel_rfl) (by kernel_rfl) (by kernel_rfl) (fun _ _ _ _ h => h) (by rfl) ?_; apply Exists.intro; refine ⟨fun w1 h1 K hK => ?_, ?_⟩; · ( go_big_quiet_op; first | exact hK | fail))
            (refine wpAnyG_take (i := 14) hCC hC0 rfl (by kernel_rfl) (by kernel_rfl) (by kernel_rfl) (fun _ _ _ _ h => h) (by rfl) ?_; apply Exists.intro; refine ⟨fun w1 h1 K hK => ?_, ?_⟩; · (have q9 : ∀ V : Aft w1, gz < V.val.heap.size := fun V => (HBX.out.below (hCC _ _ h1 V.below)).lt; go_big_quiet_op; first | exact hK | fail))
            (refine wpAnyG_take (i := 15) hCC hC0 rfl (by kernel_rfl) (by kernel_rfl) (by kernel_rfl) (fun _ _ _ _ h => h) (by rfl) ?_; apply Exists.intro; refine ⟨fun w1 h1 K hK => ?_, ?_⟩; · (have q8 : ∀ V : Aft w1, V.val.cell? ⟨gz, 4, none⟩ = some (.int .i64 hlo) := fun V => (HBX.out.below (hCC _ _ h1 V.below)).cell 4 rfl; have q9 : ∀ V : Aft w1, V.val.cell? ⟨gz, 5, none⟩ = some (.int .i64 hhi) := fun V => (HBX.out.below (hCC _ _ h1 V.below)).cell 5 rfl; go_big_quiet_op; first | exact hK | fail))
            (refine wpAnyG_take (i := 16) hCC hC0 rfl (by kernel_rfl) (by kernel_rfl) (by kernel_rfl) (fun _ _ _ _ h => h) (by rfl) ?_; apply Exists.intro; refine ⟨fun w1 h1 K hK => ?_, ?_⟩; · ( go_big_quiet_op; first | exact hK | fail))
            (refine wpAnyG_take (i := 17) hCC hC0 rfl (by kernel_rfl) (by kernel_rfl) (by kernel_rfl) (fun _ _ _ _ h => h) (by rfl) ?_; apply Exists.intro; refine ⟨fun w1 h1 K hK => ?_, ?_⟩; · ( go_big_quiet_op; first | exact hK | fail))
            (refine wpAnyG_take (i := 18) hCC hC0 rfl (by kernel_rfl) (by kernel_rfl) (by kernel_rfl) (fun _ _ _ _ h => h) (by rfl) ?_; apply Exists.intro; refine ⟨fun w1 h1 K hK => ?_, ?_⟩; · ( go_big_quiet_op; first | exact hK | exact ⟨_, fun V => aft_call (HP3.out V.val (HL.out.trans ((hCC _ _ h1 V.below).mono HL.out.size))), hK⟩))
            (refine wpAnyG_take (i := 19) hCC hC0 rfl (by kernel_rfl) (by kernel_rfl) (by kernel_rfl) (fun _ _ _ _ h => h) (by rfl) ?_; apply Exists.intro; refine ⟨fun w1 h1 K hK => ?_, ?_⟩; · ( go_big_quiet_op; first | exact hK | fail))
            (refine wpAnyG_take (i := 20) hCC hC0 rfl (by kernel_rfl) (by kernel_rfl) (by kernel_rfl) (fun _ _ _ _ h => h) (by rfl) ?_; apply Exists.intro; refine ⟨fun w1 h1 K hK => ?_, ?_⟩; · ( go_big_quiet_op; first | exact hK | fail))
            refine wpAnyG_done (by kernel_rfl) (fun wz hwz => ?_) _
            have hby := hCC _ _ hC0 hwz
            replace HL := Lib.hid (HL.out.trans (hby.mono HL.out.size))
            clear hby hCC hC0 hwz HP1 HP2 HP3 HBX hmx
            obtain ⟨PP, hPP⟩ : ∃ x, x = mx * pc := ⟨_, rfl⟩
            rw [← hPP] at n1 n2 ⊢
            clear hPP b1 b2 p1 p2 p3
            have g1 : decide (PP < llo) = false := decide_eq_false (by omega)
            have g2 : decide (lhi < PP) = false := decide_eq_false (by omega)
            have g3 : decide (llo < 0) = false := decide_eq_false (by omega)
            have g4' := (HK9.out.below HL.out).cell 0 (v := .slice (some ⟨bL, oL9, none⟩) n cL) rfl
            have g5' := (HK9.out.below HL.out).lt
            obtain ⟨d1, d2, d3⟩ := HCF.out _ HL.out
            go_wp2_with fail
            go_roundw
            case rel => exact ⟨k + 1, by omega, by go_num, HL⟩
            case measure => simp [intOf]; omega
          · have hkn : n = k := by omega
            subst hkn
            replace HF := Lib.hid (HF.out.on HL.out)
            replace HK9 := Lib.hid (HK9.out.below HL.out)
            replace HK13 := Lib.hid (HK13.out.below HL.out)
            replace HSL := Lib.hid (HSL.out.mono HL.out)
            replace HSD := Lib.hid (HSD.out.mono HL.out)
            clear HFW HU1 HV1 HU HV HOK
            have hi9 : x % n < n := Nat.mod_lt _ (by omega)
            obtain ⟨i, hi⟩ : ∃ i, i = x % n := ⟨_, rfl⟩
            have t1 : (x : Int).tmod (n : Int) = (i : Int) := by
              rw [Int.tmod_eq_emod_of_nonneg (by omega), hi]
              exact (Int.natCast_emod x n).symm
            rw [← hi] at hi9
            clear hi
            have HIN := Lib.hid hi9
            have x1 : ((n : Int) == 0) = false := by simp; omega
            have x2 : (n : Int) ≠ 0 := by omega
            have k0 : (0 : Int) ≤ (i : Int) := by omega
            have k1 : (i : Int) < (n : Int) := by omega
            have c4 := HF.out.z.cell 0 (v := .slice oa n ca) rfl
            have l4 := HF.out.z.lt
            have HKN := Lib.hid (show Kn oa n ca g4 g13 g9 bD oD9 cD bL oL9 cL wr from ⟨HF.out.z, HK13.out, HK9.out⟩)
            have HNO := Lib.hid (fun (V : World) (hV : Below wr.heap.size wr V) (j : Nat) (hl : ¬ Leaf z n j) => known_no oa n ca g4 g13 g9 bD oD9 cD bL oL9 cL z j V (by omega) (HA.out V (HF.out.on hV).low) (HKN.out.below hV) hl)
            have HYES := Lib.hid (fun (V : World) (hV : Below wr.heap.size wr V) (j : Nat) (hj : j < n) (hl : Leaf z n j) => known_yes oa n ca g4 g13 g9 bD oD9 cD bL oL9 cL z (dnF z n) (fun i => leakS (u i)) j V (by omega) hj (HA.out V (HF.out.on hV).low) (HSD.out.mono hV) (HSL.out.mono hV) (HKN.out.below hV) hl)
            clear HK9 HK13 HSL HSD HA
            obtain ⟨vv, hvv⟩ : ∃ f : Nat → Int, f = fun i => knV (dnF z n i) (leakS (u i)) := ⟨_, rfl⟩
            have HVN := Lib.hid (show ∀ j, j < n → 0 ≤ vv j from fun j hj => by rw [hvv]; exact HV0.out j hj)
            replace HYES := Lib.hid (show ∀ (V : World), Below wr.heap.size wr V → ∀ (j : Nat), j < n → Leaf z n j → Calls Try.prog 28 #[.int .i64 j, .pointer (some ⟨g4, 0, none⟩), .pointer (some ⟨g13, 0, none⟩), .pointer (some ⟨g9, 0, none⟩)] V fun e w' => e = .returned (.tuple #[.int .i64 (vv j), .bool true]) ∧ Below V.heap.size V w' by rw [hvv]; exact HYES.out)
            rw [← hvv] at HFS
            clear hvv HV0
            replace HL := Lib.hid (Below.refl wr.heap.size wr)
            by_cases hlf : Leaf z n i
            · as_aux_lemma =>
              have HLF := Lib.hid hlf
              clear hlf
              go_wp2_with fail
              refine (HYES.out _ (Below.refl _ _) i HIN.out HLF.out).mono ?_
              rintro e w5 ⟨rfl, hb⟩
              replace HF := Lib.hid (HF.out.on hb)
              replace HL := Lib.hid hb
              clear hb c4 l4
              have hvi := HVN.out i HIN.out
              obtain ⟨vi, hvi9⟩ : ∃ x, x = vv i := ⟨_, rfl⟩
              rw [← hvi9] at hvi ⊢
              have HVI := Lib.hid hvi9
              clear hvi9
              rcases HFS.out with ⟨rfl, rfl, rfl, hle⟩ | ⟨rfl, y, hy, rfl, hly, hvy, hpos, hle, hlt⟩
              · have h0 := hle i HIN.out HLF.out
                rw [← HVI.out] at h0
                have hz : vi = 0 := by omega
                subst hz
                clear hle
                go_wp2_with fail
                refine (awake_any _).mono ?_
                rintro e wz ⟨rfl, hb⟩
                replace HF := Lib.hid (HF.out.on hb)
                go_wp2_with fail
                go_ret
                exact ⟨rfl, HF.out.low⟩
              · have h0 := hle i HIN.out HLF.out
                rw [← HVI.out] at h0
                have HLT := Lib.hid (show i < y → vi < most from fun h => by have := hlt i h HLF.out; rw [HVI.out]; exact this)
                have HY := Lib.hid hly
                have HYN := Lib.hid hy
                have HVY := Lib.hid hvy
                clear hle hlt hly hvy
                have y0 : (0 : Int) ≤ (y : Int) := by omega
                have y1 : (y : Int) < (n : Int) := by omega
                have c4 := HF.out.z.cell 0 (v := .slice oa n ca) rfl
                have l4 := HF.out.z.lt
                go_wp2_with fail
                refine (HYES.out _ HL.out y HYN.out HY.out).mono ?_
                rintro e w6 ⟨rfl, hb⟩
                rw [HVY.out]
                replace HF := Lib.hid (HF.out.on hb)
                clear hb c4 l4 HL HYES HNO
                have g1 : decide (0 < most) = true := decide_eq_true hpos
                by_cases h1 : vi < most
                · have g2 : decide (vi < most) = true := decide_eq_true h1
                  go_wp2_with fail
                  refine (awake_any _).mono ?_
                  rintro e wz ⟨rfl, hb⟩
                  replace HF := Lib.hid (HF.out.on hb)
                  go_wp2_with fail
                  go_ret
                  exact ⟨rfl, HF.out.low⟩
                · have g2 : decide (vi < most) = false := decide_eq_false h1
                  have h2 : vi = most := by omega
                  subst h2
                  have h3 : ¬ i < y := fun h => by have := HLT.out h; omega
                  have g3 : (vi == vi) = true := by simp
                  have g4' : decide ((y : Int) ≤ (i : Int)) = true := decide_eq_true (by omega)
                  go_wp2_with fail
                  refine (awake_any _).mono ?_
                  rintro e wz ⟨rfl, hb⟩
                  replace HF := Lib.hid (HF.out.on hb)
                  go_wp2_with fail
                  go_ret
                  exact ⟨rfl, HF.out.low⟩
            · as_aux_lemma =>
              have HLF := Lib.hid hlf
              clear hlf
              go_wp2_with fail
              refine (HNO.out _ (Below.refl _ _) i HLF.out).mono ?_
              rintro e w5 ⟨rfl, hb⟩
              replace HF := Lib.hid (HF.out.on hb)
              replace HL := Lib.hid hb
              clear hb c4 l4
              rcases HFS.out with ⟨rfl, rfl, rfl, hle⟩ | ⟨rfl, y, hy, rfl, hly, hvy, hpos, hle, hlt⟩
              · clear hle
                go_wp2_with fail
                refine (awake_any _).mono ?_
                rintro e wz ⟨rfl, hb⟩
                replace HF := Lib.hid (HF.out.on hb)
                go_wp2_with fail
                go_ret
                exact ⟨rfl, HF.out.low⟩
              · have HY := Lib.hid hly
                have HYN := Lib.hid hy
                have HVY := Lib.hid hvy
                clear hle hlt hly hvy
                have y0 : (0 : Int) ≤ (y : Int) := by omega
                have y1 : (y : Int) < (n : Int) := by omega
                have c4 := HF.out.z.cell 0 (v := .slice oa n ca) rfl
                have l4 := HF.out.z.lt
                go_wp2_with fail
                refine (HYES.out _ HL.out y HYN.out HY.out).mono ?_
                rintro e w6 ⟨rfl, hb⟩
                rw [HVY.out]
                replace HF := Lib.hid (HF.out.on hb)
                clear hb c4 l4 HL HYES HNO
                have g1 : decide (0 < most) = true := decide_eq_true hpos
                go_wp2_with fail
                refine (awake_any _).mono ?_
                rintro e wz ⟨rfl, hb⟩
                replace HF := Lib.hid (HF.out.on hb)
                go_wp2_with fail
                go_ret
                exact ⟨rfl, HF.out.low⟩
    · obtain ⟨rfl, hb⟩ := first_none hp HC.out hall
      have HALL := Lib.hid hall
      replace HF := Lib.hid (HF.out.on hb)
      replace HK9 := Lib.hid (HK9.out.below hb)
      replace HSL := Lib.hid (HSL.out.mono hb)
      clear hp hb hall c4 l4 HFI
      have c4 := HF.out.z.cell 0 (v := .slice oa n ca) rfl
      have l4 := HF.out.z.lt
      go_wp2_with fail
      refine (HLS.out _ HF.out.low).mono ?_
      intro e w3 hp
      obtain ⟨rfl, hb⟩ := loss_none hp HLB.out HALL.out
      replace HF := Lib.hid (HF.out.on hb)
      replace HK9 := Lib.hid (HK9.out.below hb)
      replace HSL := Lib.hid (HSL.out.mono hb)
      clear hp hb HLS HALL c4 l4
      go_upto_region 8 with fail
      have HK13 := Lib.hid (Box.new (g := w3.heap.size) #[.slice none 0 0] 24 w3 rfl)
      replace HF := Lib.hid (HF.out.on (below_alloc1 w3 (.cells #[.slice none 0 0] 24)))
      replace HSL := Lib.hid (HSL.out.mono (below_alloc1 w3 (.cells #[.slice none 0 0] 24)))
      replace HK9 := Lib.hid (HK9.out.below (below_alloc1 w3 (.cells #[.slice none 0 0] 24)))
      obtain ⟨g13, hg⟩ : ∃ G, G = w3.heap.size := ⟨_, rfl⟩
      obtain ⟨W3, hW⟩ : ∃ X, X = w3.alloc (.cells #[.slice none 0 0] 24) := ⟨_, rfl⟩
      rw [← hW] at HK9 HF HSL HK13 ⊢
      rw [← hg] at HK13 ⊢
      clear hW hg
      have c4 := HF.out.z.cell 0 (v := .slice oa n ca) rfl
      have l4 := HF.out.z.lt
      have c9 := HK9.out.cell 0 (v := .slice (some ⟨bL, oL9, none⟩) n cL) rfl
      have l9 := HK9.out.lt
      have hnn : ((n : Int) != (n : Int)) = false := by simp
      go_wp2_with fail
      refine (HZS.out _ HF.out.low).mono ?_
      rintro e W ⟨rfl, hb⟩
      rw [HLB.out]
      replace HF := Lib.hid (HF.out.on hb)
      replace HK9 := Lib.hid (HK9.out.below hb)
      replace HK13 := Lib.hid (HK13.out.below hb)
      replace HSL := Lib.hid (HSL.out.mono hb)
      clear hb HZS c4 l4 c9 l9 hnn
      as_aux_lemma =>
        have HFW := Lib.hid (show ∀ V, Below W.heap.size W V → Zf w oa n ca g4 oc h cc g6 V from fun V hV => HF.out.on hV)
        have HU1 := Lib.hid (show ∀ V, Below W.heap.size W V → NigsAt V ob n u from fun V hV => HU.out V (HF.out.on hV).low)
        have HV1 := Lib.hid (show ∀ V, Below W.heap.size W V → U16sAt V oc h v from fun V hV => HV.out V (HF.out.on hV).low)
        go_wp2_with fail
        go_loopw [16] (fun v16 wr => ∃ k : Nat, k ≤ n ∧ v16 = .int .i64 k ∧ Hid (Below W.heap.size W wr)) (fun v16 _ => n - (intOf v16).toNat)
        case atStart => exact ⟨0, Nat.zero_le _, rfl, Lib.hid (Below.refl _ _)⟩
        case round =>
          obtain ⟨k, hk, rfl, HL⟩ := hrel
          by_cases hlt : k < n
          · as_aux_lemma =>
            have hk0 : (0 : Int) ≤ (k : Int) := by omega
            have hk1 : (k : Int) < (n : Int) := by omega
            obtain ⟨b, off, hob, hl, c0, c1, c2, c3, c4, c5⟩ := (HU1.out _ HL.out) k hlt
            subst hob
            have HNS := Lib.hid (nigB_spec (HOK.out k hlt))
            have HNL := Lib.hid (fun a b c => leak_in (a := a) (b := b) (c := c) (HOK.out k hlt))
            have HCF := Lib.hid (show ∀ V, Below W.heap.size W V → bL < V.heap.size ∧ V.cell? ⟨bL, oL9 + k * 2, none⟩ = some (.int .i64 (leakS (u k)).lo) ∧ V.cell? ⟨bL, oL9 + k * 2 + 1, none⟩ = some (.int .i64 (leakS (u k)).hi) from fun V hV => by
              obtain ⟨b9, o9, e9, h1, h2, h3⟩ := (HSL.out.mono hV) k hlt
              cases e9
              exact ⟨h1, h2, h3⟩)
            obtain ⟨LS, hLS⟩ : ∃ L, L = leakS (u k) := ⟨_, rfl⟩
            rw [← hLS] at HCF
            simp only [← hLS] at HNL
            clear hLS
            obtain ⟨Z, hZ⟩ : ∃ Z, Z = u k := ⟨_, rfl⟩
            rw [← hZ] at c0 c1 c2 c3 c4 c5 HNS
            simp only [← hZ] at HNL
            clear hZ
            obtain ⟨⟨flo, fhi⟩, ⟨ulo, uhi⟩, ⟨hlo, hhi⟩⟩ := Z
            obtain ⟨llo, lhi⟩ := LS
            simp only at c0 c1 c2 c3 c4 c5 HNS HNL HCF
            go_upto_region 15 with fail
            have hbl := below_alloc1 wr (.cells #[.int .i64 flo, .int .i64 fhi, .int .i64 ulo, .int .i64 uhi, .int .i64 hlo, .int .i64 hhi] 54)
            have hbx := Box.new (g := wr.heap.size) #[.int .i64 flo, .int .i64 fhi, .int .i64 ulo, .int .i64 uhi, .int .i64 hlo, .int .i64 hhi] 54 wr rfl
            obtain ⟨gz, hG⟩ : ∃ G, G = wr.heap.size := ⟨_, rfl⟩
            obtain ⟨w2, hW⟩ : ∃ X, X = wr.alloc (.cells #[.int .i64 flo, .int .i64 fhi, .int .i64 ulo, .int .i64 uhi, .int .i64 hlo, .int .i64 hhi] 54) := ⟨_, rfl⟩
            rw [← hW] at hbl hbx ⊢
            rw [← hG] at hbx ⊢
            replace HL := Lib.hid (HL.out.trans (hbl.mono HL.out.size))
            have HBX := Lib.hid hbx
            clear hbl hbx hW hG c0 c1 c2 c3 c4 c5 hl wr
            obtain ⟨⟨f1, f2, f3⟩, ⟨u1, u2, u3⟩, v1, v2, v3⟩ := HNS.out
            have HP1 := Lib.hid (fun (V : World) (hV : Below W.heap.size W V) => pick_any ⟨flo, fhi⟩ (k : Int) k h cc g6 oc v V rfl (by omega) hh0 hh f1 f2 f3 (HFW.out V hV).b (HV1.out V hV))
            have HP2 := Lib.hid (fun (V : World) (hV : Below W.heap.size W V) => pick_any ⟨ulo, uhi⟩ ((k : Int) + 1) (k + 1) h cc g6 oc v V (by omega) (by omega) hh0 hh u1 u2 u3 (HFW.out V hV).b (HV1.out V hV))
            have HP3 := Lib.hid (fun (V : World) (hV : Below W.heap.size W V) => pick_any ⟨hlo, hhi⟩ ((k : Int) + 2) (k + 2) h cc g6 oc v V (by omega) (by omega) hh0 hh v1 v2 (by simp only; omega) (HFW.out V hV).b (HV1.out V hV))
            have p1 := pickV_in (s := ⟨flo, fhi⟩) (k := k) (m := h) (u := v) f2
            have p2 := pickV_in (s := ⟨ulo, uhi⟩) (k := k + 1) (m := h) (u := v) u2
            have p3 := pickV_in (s := ⟨hlo, hhi⟩) (k := k + 2) (m := h) (u := v) v2
            obtain ⟨pa, hpa⟩ : ∃ x, x = pickV ⟨flo, fhi⟩ k h v := ⟨_, rfl⟩
            obtain ⟨pb, hpb⟩ : ∃ x, x = pickV ⟨ulo, uhi⟩ (k + 1) h v := ⟨_, rfl⟩
            obtain ⟨pc, hpc⟩ : ∃ x, x = pickV ⟨hlo, hhi⟩ (k + 2) h v := ⟨_, rfl⟩
            rw [← hpa] at p1
            simp only [← hpa] at HP1
            rw [← hpb] at p2
            simp only [← hpb] at HP2
            rw [← hpc] at p3
            simp only [← hpc] at HP3
            clear hpa hpb hpc
            simp only at p1 p2 p3
            obtain ⟨n1, n2, n3, n4⟩ := HNL.out pa pb pc p1.1 p1.2 p2.1 p2.2 p3.1 p3.2
            have hmx : (if pb < pa then pa - pb else 0) = max 0 (pa - pb) := by split <;> omega
            obtain ⟨mx, hm9⟩ : ∃ x, x = max 0 (pa - pb) := ⟨_, rfl⟩
            rw [← hm9] at hmx n1 n2
            clear hm9 HNL HNS
            have b1 : -9223372036854775808 ≤ mx * pc ∧ mx * pc ≤ 9223372036854775807 := by omega
            have b2 : -1073741824 ≤ pa - pb ∧ pa - pb ≤ 1073741824 := by omega
            have hCC : ∀ A B : World, Below w2.heap.size w2 A → Below A.heap.size A B → Below w2.heap.size w2 B := fun A B h1 h2 => h1.trans (h2.mono h1.size)
            have hC0 : Below w2.heap.size w2 w2.drew := (Below.refl _ _).drew
            refine wp_region_garb (Below w2.heap.size w2) (by kernel_rfl) ?_
            (refine wpAnyG_take (i := 0) hCC hC0 rfl (by kernel_rfl) (by kernel_rfl) (by kernel_rfl) (fun _ _ _ _ h => h) (by rfl) ?_; apply Exists.intro; refine ⟨fun w1 h1 K hK => ?_, ?_⟩; · ( go_big_quiet_op; first | exact hK | fail))
            (refine wpAnyG_take (i := 1) hCC hC0 rfl (by kernel_rfl) (by kernel_rfl) (by kernel_rfl) (fun _ _ _ _ h => h) (by rfl) ?_; apply Exists.intro; refine ⟨fun w1 h1 K hK => ?_, ?_⟩; · (have q9 : ∀ V : Aft w1, gz < V.val.heap.size := fun V => (HBX.out.below (hCC _ _ h1 V.below)).lt; go_big_quiet_op; first | exact hK | fail))
            (refine wpAnyG_take (i := 2) hCC hC0 rfl (by kernel_rfl) (by kernel_rfl) (by kernel_rfl) (fun _ _ _ _ h => h) (by rfl) ?_; apply Exists.intro; refine ⟨fun w1 h1 K hK => ?_, ?_⟩; · (have q8 : ∀ V : Aft w1, V.val.cell? ⟨gz, 0, none⟩ = some (.int .i64 flo) := fun V => (HBX.out.below (hCC _ _ h1 V.below)).cell 0 rfl; have q9 : ∀ V : Aft w1, V.val.cell? ⟨gz, 1, none⟩ = some (.int .i64 fhi) := fun V => (HBX.out.below (hCC _ _ h1 V.below)).cell 1 rfl; go_big_quiet_op; first | exact hK | fail))
            (refine wpAnyG_take (i := 3) hCC hC0 rfl (by kernel_rfl) (by kernel_rfl) (by kernel_rfl) (fun _ _ _ _ h => h) (by rfl) ?_; apply Exists.intro; refine ⟨fun w1 h1 K hK => ?_, ?_⟩; · ( go_big_quiet_op; first | exact hK | fail))
            (refine wpAnyG_take (i := 4) hCC hC0 rfl (by kernel_rfl) (by kernel_rfl) (by kernel_rfl) (fun _ _ _ _ h => h) (by rfl) ?_; apply Exists.intro; refine ⟨fun w1 h1 K hK => ?_, ?_⟩; · ( go_big_quiet_op; first | exact hK | exact ⟨_, fun V => aft_call (HP1.out V.val (HL.out.trans ((hCC _ _ h1 V.below).mono HL.out.size))), hK⟩))
            (refine wpAnyG_take (i := 5) hCC hC0 rfl (by kernel_rfl) (by kernel_rfl) (by kernel_rfl) (fun _ _ _ _ h => h) (by rfl) ?_; apply Exists.intro; refine ⟨fun w1 h1 K hK => ?_, ?_⟩; · ( go_big_quiet_op; first | exact hK | fail))
            (refine wpAnyG_take (i := 6) hCC hC0 rfl (by kernel_rfl) (by kernel_rfl) (by kernel_rfl) (fun _ _ _ _ h => h) (by rfl) ?_; apply Exists.intro; refine ⟨fun w1 h1 K hK => ?_, ?_⟩; · (have q9 : ∀ V : Aft w1, gz < V.val.heap.size := fun V => (HBX.out.below (hCC _ _ h1 V.below)).lt; go_big_quiet_op; first | exact hK | fail))
            (refine wpAnyG_take (i := 7) hCC hC0 rfl (by kernel_rfl) (by kernel_rfl) (by kernel_rfl) (fun _ _ _ _ h => h) (by rfl) ?_; apply Exists.intro; refine ⟨fun w1 h1 K hK => ?_, ?_⟩; · (have q8 : ∀ V : Aft w1, V.val.cell? ⟨gz, 2, none⟩ = some (.int .i64 ulo) := fun V => (HBX.out.below (hCC _ _ h1 V.below)).cell 2 rfl; have q9 : ∀ V : Aft w1, V.val.cell? ⟨gz, 3, none⟩ = some (.int .i64 uhi) := fun V => (HBX.out.below (hCC _ _ h1 V.below)).cell 3 rfl; go_big_quiet_op; first | exact hK | fail))
            (refine wpAnyG_take (i := 8) hCC hC0 rfl (by kernel_rfl) (by kernel_rfl) (by kernel_rfl) (fun _ _ _ _ h => h) (by rfl) ?_; apply Exists.intro; refine ⟨fun w1 h1 K hK => ?_, ?_⟩; · ( go_big_quiet_op; first | exact hK | fail))
            (refine wpAnyG_take (i := 9) hCC hC0 rfl (by kernel_rfl) (by kernel_rfl) (by kernel_rfl) (fun _ _ _ _ h => h) (by rfl) ?_; apply Exists.intro; refine ⟨fun w1 h1 K hK => ?_, ?_⟩; · ( go_big_quiet_op; first | exact hK | fail))
            (refine wpAnyG_take (i := 10) hCC hC0 rfl (by kernel_rfl) (by kernel_rfl) (by kernel_rfl) (fun _ _ _ _ h => h) (by rfl) ?_; apply Exists.intro; refine ⟨fun w1 h1 K hK => ?_, ?_⟩; · ( go_big_quiet_op; first | exact hK | exact ⟨_, fun V => aft_call (HP2.out V.val (HL.out.trans ((hCC _ _ h1 V.below).mono HL.out.size))), hK⟩))
            (refine wpAnyG_take (i := 11) hCC hC0 rfl (by kernel_rfl) (by kernel_rfl) (by kernel_rfl) (fun _ _ _ _ h => h) (by rfl) ?_; apply Exists.intro; refine ⟨fun w1 h1 K hK => ?_, ?_⟩; · ( go_big_quiet_op; first | exact hK | fail))
            (refine wpAnyG_take (i := 12) hCC hC0 rfl (by kernel_rfl) (by kernel_rfl) (by kernel_rfl) (fun _ _ _ _ h => h) (by rfl) ?_; apply Exists.intro; refine ⟨fun w1 h1 K hK => ?_, ?_⟩; · ( go_big_quiet_op; first | exact hK | fail))
            (refine wpAnyG_take (i := 13) hCC hC0 rfl (by kernel_rfl) (by kernel_rfl) (by kernel_rfl) (fun _ _ _ _ h => h) (by rfl) ?_; apply Exists.intro; refine ⟨fun w1 h1 K hK => ?_, ?_⟩; · ( go_big_quiet_op; first | exact hK | fail))
            (refine wpAnyG_take (i := 14) hCC hC0 rfl (by kernel_rfl) (by kernel_rfl) (by kernel_rfl) (fun _ _ _ _ h => h) (by rfl) ?_; apply Exists.intro; refine ⟨fun w1 h1 K hK => ?_, ?_⟩; · (have q9 : ∀ V : Aft w1, gz < V.val.heap.size := fun V => (HBX.out.below (hCC _ _ h1 V.below)).lt; go_big_quiet_op; first | exact hK | fail))
            (refine wpAnyG_take (i := 15) hCC hC0 rfl (by kernel_rfl) (by kernel_rfl) (by kernel_rfl) (fun _ _ _ _ h => h) (by rfl) ?_; apply Exists.intro; refine ⟨fun w1 h1 K hK => ?_, ?_⟩; · (have q8 : ∀ V : Aft w1, V.val.cell? ⟨gz, 4, none⟩ = some (.int .i64 hlo) := fun V => (HBX.out.below (hCC _ _ h1 V.below)).cell 4 rfl; have q9 : ∀ V : Aft w1, V.val.cell? ⟨gz, 5, none⟩ = some (.int .i64 hhi) := fun V => (HBX.out.below (hCC _ _ h1 V.below)).cell 5 rfl; go_big_quiet_op; first | exact hK | fail))
            (refine wpAnyG_take (i := 16) hCC hC0 rfl (by kernel_rfl) (by kernel_rfl) (by kernel_rfl) (fun _ _ _ _ h => h) (by rfl) ?_; apply Exists.intro; refine ⟨fun w1 h1 K hK => ?_, ?_⟩; · ( go_big_quiet_op; first | exact hK | fail))
            (refine wpAnyG_take (i := 17) hCC hC0 rfl (by kernel_rfl) (by kernel_rfl) (by kernel_rfl) (fun _ _ _ _ h => h) (by rfl) ?_; apply Exists.intro; refine ⟨fun w1 h1 K hK => ?_, ?_⟩; · ( go_big_quiet_op; first | exact hK | fail))
            (refine wpAnyG_take (i := 18) hCC hC0 rfl (by kernel_rfl) (by kernel_rfl) (by kernel_rfl) (fun _ _ _ _ h => h) (by rfl) ?_; apply Exists.intro; refine ⟨fun w1 h1 K hK => ?_, ?_⟩; · ( go_big_quiet_op; first | exact hK | exact ⟨_, fun V => aft_call (HP3.out V.val (HL.out.trans ((hCC _ _ h1 V.below).mono HL.out.size))), hK⟩))
            (refine wpAnyG_take (i := 19) hCC hC0 rfl (by kernel_rfl) (by kernel_rfl) (by kernel_rfl) (fun _ _ _ _ h => h) (by rfl) ?_; apply Exists.intro; refine ⟨fun w1 h1 K hK => ?_, ?_⟩; · ( go_big_quiet_op; first | exact hK | fail))
            (refine wpAnyG_take (i := 20) hCC hC0 rfl (by kernel_rfl) (by kernel_rfl) (by kernel_rfl) (fun _ _ _ _ h => h) (by rfl) ?_; apply Exists.intro; refine ⟨fun w1 h1 K hK => ?_, ?_⟩; · ( go_big_quiet_op; first | exact hK | fail))
            refine wpAnyG_done (by kernel_rfl) (fun wz hwz => ?_) _
            have hby := hCC _ _ hC0 hwz
            replace HL := Lib.hid (HL.out.trans (hby.mono HL.out.size))
            clear hby hCC hC0 hwz HP1 HP2 HP3 HBX hmx
            obtain ⟨PP, hPP⟩ : ∃ x, x = mx * pc := ⟨_, rfl⟩
            rw [← hPP] at n1 n2 ⊢
            clear hPP b1 b2 p1 p2 p3
            have g1 : decide (PP < llo) = false := decide_eq_false (by omega)
            have g2 : decide (lhi < PP) = false := decide_eq_false (by omega)
            have g3 : decide (llo < 0) = false := decide_eq_false (by omega)
            have g4' := (HK9.out.below HL.out).cell 0 (v := .slice (some ⟨bL, oL9, none⟩) n cL) rfl
            have g5' := (HK9.out.below HL.out).lt
            obtain ⟨d1, d2, d3⟩ := HCF.out _ HL.out
            go_wp2_with fail
            go_roundw
            case rel => exact ⟨k + 1, by omega, by go_num, HL⟩
            case measure => simp [intOf]; omega
          · have hkn : n = k := by omega
            subst hkn
            replace HF := Lib.hid (HF.out.on HL.out)
            have k13 := (HK13.out.below HL.out).cell 0 (v := .slice none 0 0) rfl
            have l13 := (HK13.out.below HL.out).lt
            go_wp2_with fail
            refine (awake_any _).mono ?_
            rintro e wz ⟨rfl, hb⟩
            replace HF := Lib.hid (HF.out.on hb)
            go_wp2_with fail
            go_ret
            exact ⟨rfl, HF.out.low⟩
end Go.Proofs.Ytipnaeijbbbdoaa
