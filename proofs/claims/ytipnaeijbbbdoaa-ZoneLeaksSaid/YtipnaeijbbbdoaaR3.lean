/- Zone, the document's side: narrow. -/
import Derived.Test.YtipnaeijbbbdoaaR2
import Derived.Test.YtipnaeijbbbdoaaP6
import Derived.Test.YtipnaeijbbbdoaaF6
namespace Go.Proofs.Ytipnaeijbbbdoaa
open Go.RowKit
theorem SRow.at_ {w : World} {g n : Nat} {s : Nat → Spn} {cur : Array Value} (h : SRow n s cur) (hb : Box g cur 41 w) : SpnsAt w (some ⟨g, 0, none⟩) n s := fun i hi =>
  ⟨g, 0, rfl, hb.lt, by rw [Nat.zero_add]; exact hb.cell _ (h.2 i hi).1, by rw [Nat.zero_add]; exact hb.cell _ (h.2 i hi).2⟩
theorem owns_srow {w : World} {base n : Nat} {v : Value} {f : Nat → Spn} (h : w.ownsRow base 41 2 v n (spanNews n f)) (hn : 0 < n) : ∃ g cap cur, v = .slice (some ⟨g, 0, none⟩) n cap ∧ base ≤ g ∧ Box g cur 41 w ∧ SRow n f cur := by
  obtain ⟨-, ⟨-, h0⟩ | ⟨g, cap, cur, rfl, hb, hg, hnc, -, hcs, hx⟩⟩ := h
  · omega
  · have key : ∀ j, j < n * 2 → cur[j]? = some (.int .i64 (if j % 2 = 0 then (f (j / 2)).lo else (f (j / 2)).hi)) := fun j hj => by
      have h1 : (spanNews n f)[j]? = some (.int .i64 (if j % 2 = 0 then (f (j / 2)).lo else (f (j / 2)).hi)) := by
        unfold spanNews pairNews
        rw [List.getElem?_map, List.getElem?_range hj]
        rfl
      rw [← h1, ← hx, List.getElem?_take_of_lt hj, Array.getElem?_toList]
    refine ⟨g, cap, cur, rfl, hb, ⟨hg⟩, by rw [hcs]; omega, fun i hi => ⟨?_, ?_⟩⟩
    · rw [key (i * 2) (by omega), if_pos (by omega), show i * 2 / 2 = i by omega]
    · rw [key (i * 2 + 1) (by omega), if_neg (by omega), show (i * 2 + 1) / 2 = i by omega]
theorem SRow.set {n i : Nat} {s : Nat → Spn} {cur : Array Value} (h : SRow n s cur) (hi : i < n) (x : Spn) : SRow n (updS s i x) (setA cur (i * 2) [.int .i64 x.lo, .int .i64 x.hi]) := by
  obtain ⟨hs, hc⟩ := h
  refine ⟨by rw [setA_size]; exact hs, fun j hj => ?_⟩
  rw [setA_get _ _ _ _ (by simp; omega), setA_get _ _ _ _ (by simp; omega)]
  by_cases hji : j = i
  · subst hji
    rw [if_pos (by simp), if_pos (by simp), updS_self, show j * 2 - j * 2 = 0 by omega, show j * 2 + 1 - j * 2 = 1 by omega]
    exact ⟨rfl, rfl⟩
  · rw [if_neg (by simp; omega), if_neg (by simp; omega), updS_ne hji]
    exact hc j hj
def cellI (w : World) (g j : Nat) : Int := match w.cell? ⟨g, j, none⟩ with
  | some (.int _ n) => n
  | _ => 0
def rdS (w : World) (g : Nat) : Nat → Spn := fun i => ⟨cellI w g (i * 2), cellI w g (i * 2 + 1)⟩
theorem rd_row {w : World} {g n : Nat} {s : Nat → Spn} {cur : Array Value} (hb : Box g cur 41 w) (h : SRow n s cur) : widN (rdS w g) n = widN s n :=
  widN_congr fun i hi => by
    unfold rdS cellI
    rw [hb.cell _ (h.2 i hi).1, hb.cell _ (h.2 i hi).2]
theorem ix24 {g n c i : Nat} (h : i < n) (W : World) : (Instr.indexAt 24 (.slice (some ⟨g, 0, none⟩) n c) (.int .i64 (i : Nat))).run Try.prog W = .ok (.pointer (some ⟨g, i * 2, none⟩)) W := by
  have k0 : (0 : Int) ≤ (i : Int) := by omega
  have k1 : (i : Int) < (n : Int) := by omega
  simp [go_sem, k0, k1]
theorem ints_only {w w' : World} {b o n g : Nat} {f : Nat → Int} (h : IntsAt w (some ⟨b, o, none⟩) n f) (ho : Only g w w') (hne : b ≠ g) : IntsAt w' (some ⟨b, o, none⟩) n f := fun i hi => by
  obtain ⟨b9, o9, e, hl, h0⟩ := h i hi
  cases e
  exact ⟨b, o, rfl, by rw [ho.size]; exact hl, (World.cell?_of_block (a := ⟨b, o + i, none⟩) (ho.block b hne)).trans h0⟩
/-- what narrow says -/
def NarP (z : Nat → Zon) (n q : Nat) (w : World) (e : Ending) (w' : World) : Prop :=
  Below w.heap.size w w' ∧ ((e = .returned (.tuple #[.slice none 0 0, .bool false]) ∧ ¬ ∃ t, Fam z n q t) ∨
    (∃ oL cL s, e = .returned (.tuple #[.slice oL n cL, .bool true]) ∧ SpnsAt w' oL n s ∧ (∀ a, oL = some a → w.heap.size ≤ a.block) ∧ Fam z n q s ∧ ∀ t, Fam z n q t → Wthn z n q t s))
set_option maxRecDepth 100000 in
set_option maxHeartbeats 32000000 in
theorem narrow_any (oa : Option Addr) (n ca q : Nat) (z : Nat → Zon) (w : World) (hn : n ≤ 12) (hq : q < n) (hz : Tree z n) (hok : ∀ i, i < n → (z i).ok) (hA : ZonsAt w oa n z) :
    Calls Try.prog 39 #[.slice oa n ca, .int .i64 q] w (NarP z n q w) := by
  have HA := Lib.hid (fun (V : World) (hV : Below w.heap.size w V) => hA.mono hV)
  have HZ := Lib.hid hz
  have HOK := Lib.hid hok
  have HBE := Lib.hid (fun (V : World) (hV : Below w.heap.size w V) (i : Nat) (hi : i < n) => below_any oa n ca z q hz i V hi (hA.mono hV))
  have HPT := Lib.hid (fun (V : World) (hV : Below w.heap.size w V) (i : Nat) => dparts_any oa n ca i z V (by omega) (hA.mono hV))
  have HQ := Lib.hid hq
  clear hA hz hok hq
  obtain ⟨iR, hiR, hzR0, hzR1, hzR2⟩ := info_parts (P := Try.prog) (e := 41) (z := .agg #[.int .i64 0, .int .i64 0]) (size := 2) (bytes := 16) (by kernel_rfl)
  have HIR := Lib.hid hiR
  have HZR := Lib.hid (And.intro hzR0 (And.intro hzR1 hzR2))
  clear hiR hzR0 hzR1 hzR2
  go_enter Try.func39, Try.ntmps39
  go_wp2_with fail
  go_loopw [6, 7] (fun v6 v7 wr => ∃ m : Nat, m ≤ n ∧ v7 = .int .i64 m ∧ Hid (∀ i, i < m → Und z q i → (z i).own.lo ≤ (z i).own.hi) ∧ Hid (wr.ownsRow w.heap.size 41 2 v6 m (spanNews m (fun j => (z j).own))) ∧ Hid (Below w.heap.size w wr)) (fun _ v7 _ => n - (intOf v7).toNat)
  case atStart => exact ⟨0, Nat.zero_le _, rfl, Lib.hid fun i hi => by omega, Lib.hid owns_none, Lib.hid (Below.refl _ _)⟩
  case round =>
    obtain ⟨m, hm, rfl, HNO, HOW, HL⟩ := hrel
    by_cases hlt : m < n
    · as_aux_lemma =>
      obtain ⟨b, off, hoa, hl, c0, c1, c2, c3, c4, c5, c6, c7, c8⟩ := (HA.out _ HL.out) m hlt
      subst hoa
      have HSN := Lib.hid (show spanNews m (fun j => (z j).own) ++ [.int .i64 (z m).own.lo, .int .i64 (z m).own.hi] = spanNews (m + 1) (fun j => (z j).own) from (pair_news_succ _ _ _).symm)
      have HO1 := Lib.hid (fun (V : World) => own1_any (z m) V (HOK.out m hlt))
      have HBM := Lib.hid (fun (V : World) (hV : Below w.heap.size w V) => HBE.out V hV m hlt)
      have HNY := Lib.hid (show (Und z q m → (z m).own.lo ≤ (z m).own.hi) → ∀ i, i < m + 1 → Und z q i → (z i).own.lo ≤ (z i).own.hi from fun h i hi hu => by
        by_cases h9 : i = m
        · subst h9; exact h hu
        · exact HNO.out i (by omega) hu)
      have HBAD := Lib.hid (show Und z q m → ¬ (z m).own.lo ≤ (z m).own.hi → ¬ ∃ t, Fam z n q t from fun hu hle => by
        rintro ⟨t, ht⟩
        have := ht.own m hlt hu
        omega)
      have hown := HOW.out
      obtain ⟨oL, cL, rfl, -⟩ := owns_form hown
      obtain ⟨xs, hxs⟩ : ∃ l, l = spanNews m (fun j => (z j).own) := ⟨_, rfl⟩
      obtain ⟨ys, hys⟩ : ∃ l, l = spanNews (m + 1) (fun j => (z j).own) := ⟨_, rfl⟩
      rw [← hxs] at hown HOW HSN
      rw [← hys] at HSN
      have HYS := Lib.hid hys
      clear hxs hys
      obtain ⟨ox, hox⟩ : ∃ s, s = (z m).own := ⟨_, rfl⟩
      rw [← hox] at HSN HO1 HNY HBAD
      clear hox
      obtain ⟨Z, hZ⟩ : ∃ Z, Z = z m := ⟨_, rfl⟩
      rw [← hZ] at c0 c1 c2 c3 c4 c5 c6 c7 c8 HO1
      clear hZ
      obtain ⟨⟨ilo, ihi⟩, ⟨mlo, mhi⟩, ⟨elo, ehi⟩, ⟨llo, lhi⟩, p⟩ := Z
      simp only at c0 c1 c2 c3 c4 c5 c6 c7 c8
      have hk0 : (0 : Int) ≤ (m : Int) := by omega
      have hk1 : (m : Int) < (n : Int) := by omega
      have HOW2 := Lib.hid hown
      clear hown HOW hlt
      go_wp2_with fail
      refine (HO1.out _).mono ?_
      rintro e w3 ⟨rfl, hb3⟩
      replace HOW2 := Lib.hid (owns_below HOW2.out hb3)
      replace HL := Lib.hid (HL.out.trans (hb3.mono HL.out.size))
      clear hb3 c0 c1 c2 c3 c4 c5 c6 c7 c8 HO1 hl
      obtain ⟨olo, ohi⟩ := ox
      simp only at HSN HNY HBAD
      go_upto_region 6 with fail
      have hbl := below_alloc1 w3 (.cells #[.int .i64 olo, .int .i64 ohi] 41)
      have hbx := Box.new (g := w3.heap.size) #[.int .i64 olo, .int .i64 ohi] 41 w3 rfl
      obtain ⟨gs, hG⟩ : ∃ G, G = w3.heap.size := ⟨_, rfl⟩
      obtain ⟨w4, hW⟩ : ∃ X, X = w3.alloc (.cells #[.int .i64 olo, .int .i64 ohi] 41) := ⟨_, rfl⟩
      rw [← hW] at hbl hbx ⊢
      rw [← hG] at hbx ⊢
      replace HOW2 := Lib.hid (owns_below HOW2.out hbl)
      replace HL := Lib.hid (HL.out.trans (hbl.mono HL.out.size))
      have HBS := Lib.hid hbx
      clear hbl hbx hW hG w3
      by_cases hle : olo ≤ ohi
      · have hd : decide (olo ≤ ohi) = true := decide_eq_true hle
        have hd2 : decide (ohi < olo) = false := decide_eq_false (by omega)
        have HNX := Lib.hid (HNY.out fun _ => hle)
        clear HNY HBAD
        go_upto_region 8 with fail
        clear hd hd2
        have s0 := HBS.out.cell 0 (v := .int .i64 olo) rfl
        have s1 := HBS.out.cell 1 (v := .int .i64 ohi) rfl
        have s4 := HBS.out.lt
        have hwsz := HL.out.size
        go_wp2_with (at_builtin; refine wpList_append_gen rfl (.tmp 39) (.tmp 41) _ rfl w.heap.size 41 iR _ 2 16 Try.underlying24 HIR.out HZR.out.1 HZR.out.2.1 HZR.out.2.2 rfl (by omega) (.slice oL m cL) m xs rfl (some ⟨w4.heap.size, 0, none⟩) 1 1 [.int .i64 olo, .int .i64 ohi] rfl (HOW2.out.alloc _) (fun e9 => by cases e9) rfl (fun ad9 e9 j9 u9 hu9 => by cases e9; exact news_blk2 (e := 41) (heap_new rfl) hu9) (by simp [Value.oneCell']) (by simp only [maxLen]; omega) (by omega) (by simp; omega) ?_; intro vS wS hownS hgrowS)
        have hbS : Below w.heap.size w wS := (HL.out.alloc HL.out.size _).trans (below_row HOW2.out hgrowS HL.out.size)
        rw [HSN.out, HYS.out] at hownS
        have HO2 := Lib.hid hownS
        have HL2 := Lib.hid hbS
        clear hownS hbS hgrowS s0 s1 s4
        go_wp2_with fail
        go_roundw
        case rel => exact ⟨m + 1, by omega, by go_num, HNX, HO2, HL2⟩
        case measure => simp [intOf]; omega
      · have hd : decide (olo ≤ ohi) = false := decide_eq_false hle
        have hd2 : decide (ohi < olo) = true := decide_eq_true (by omega)
        have hgt : ohi < olo := by omega
        have HLE := Lib.hid hle
        clear hle
        go_wp2_with fail
        refine (HBM.out _ HL.out).mono ?_
        rintro e w5 ⟨rfl, hb5⟩
        replace HOW2 := Lib.hid (owns_below HOW2.out hb5)
        replace HL := Lib.hid (HL.out.trans (hb5.mono HL.out.size))
        replace HBS := Lib.hid (HBS.out.below hb5)
        clear hb5 w4
        obtain ⟨w4, hw4⟩ : ∃ X, X = w5 := ⟨_, rfl⟩
        rw [← hw4] at HOW2 HL HBS ⊢
        clear hw4 w5
        cases hub : undB z q m
        · have HNX := Lib.hid (HNY.out fun h => by rw [undB_iff.2 h] at hub; cases hub)
          clear HNY HBAD hub
          go_upto_region 8 with fail
          clear hd hd2 hgt
          have s0 := HBS.out.cell 0 (v := .int .i64 olo) rfl
          have s1 := HBS.out.cell 1 (v := .int .i64 ohi) rfl
          have s4 := HBS.out.lt
          have hwsz := HL.out.size
          go_wp2_with (at_builtin; refine wpList_append_gen rfl (.tmp 39) (.tmp 41) _ rfl w.heap.size 41 iR _ 2 16 Try.underlying24 HIR.out HZR.out.1 HZR.out.2.1 HZR.out.2.2 rfl (by omega) (.slice oL m cL) m xs rfl (some ⟨w4.heap.size, 0, none⟩) 1 1 [.int .i64 olo, .int .i64 ohi] rfl (HOW2.out.alloc _) (fun e9 => by cases e9) rfl (fun ad9 e9 j9 u9 hu9 => by cases e9; exact news_blk2 (e := 41) (heap_new rfl) hu9) (by simp [Value.oneCell']) (by simp only [maxLen]; omega) (by omega) (by simp; omega) ?_; intro vS wS hownS hgrowS)
          have hbS : Below w.heap.size w wS := (HL.out.alloc HL.out.size _).trans (below_row HOW2.out hgrowS HL.out.size)
          rw [HSN.out, HYS.out] at hownS
          have HO2 := Lib.hid hownS
          have HL2 := Lib.hid hbS
          clear hownS hbS hgrowS s0 s1 s4
          go_wp2_with fail
          go_roundw
          case rel => exact ⟨m + 1, by omega, by go_num, HNX, HO2, HL2⟩
          case measure => simp [intOf]; omega
        · have HBD := Lib.hid (HBAD.out (undB_iff.1 hub) HLE.out)
          clear HNY HBAD hub
          go_wp2_with fail
          refine bodyPost_ret (v := .tuple #[.slice none 0 0, .bool false]) (by simp [results, Try.results39, go_sem]) rfl ⟨HL.out, .inl ⟨rfl, HBD.out⟩⟩
    · have hmn : n = m := by omega
      subst hmn
      have hn0 : 0 < n := by have := HQ.out; omega
      obtain ⟨g, cR, cur0, rfl, hgb, hbx, hsr⟩ := owns_srow HOW.out hn0
      have HG := Lib.hid hgb
      have HX := Lib.hid hbx
      have HR := Lib.hid hsr
      have HN := Lib.hid (show NI z n q (fun j => (z j).own) from ⟨fun i hi hu => ⟨Int.le_refl _, HNO.out i hi hu, Int.le_refl _⟩, fun t ht i hi hu => by have := ht.own i hi hu; exact ⟨this.1, this.2.2⟩⟩)
      clear HOW HNO hgb hbx hsr hlt HIR HZR
      as_aux_lemma =>
        go_wp2_with fail
        go_loopw [10] (fun _ wr => ∃ (s : Nat → Spn) (cur : Array Value), Hid (Box g cur 41 wr) ∧ Hid (SRow n s cur) ∧ Hid (NI z n q s) ∧ Hid (Below w.heap.size w wr)) (fun _ wr => widN (rdS wr g) n)
        case atStart => exact ⟨_, cur0, HX, HR, HN, HL⟩
        case round =>
          clear HX HR HN HL
          obtain ⟨s0, cur0, HX, HR, HN, HL⟩ := hrel
          have HM := Lib.hid (rd_row HX.out HR.out)
          have HV := Lib.hid HN.out.start
          clear HN
          go_wp2_with fail
          obtain ⟨WR, hWR⟩ : ∃ x, x = wr := ⟨_, rfl⟩
          go_loopw [10, 11] (fun v10 v11 wr => ∃ (zz : Nat) (s : Nat → Spn) (cur : Array Value) (st : Bool), zz ≤ n ∧ v11 = .int .i64 zz ∧ v10 = .bool st ∧ Hid (Box g cur 41 wr) ∧ Hid (SRow n s cur) ∧ Hid (ZV z n q s0 zz s st) ∧ Hid (Below w.heap.size w wr)) (fun _ v11 _ => n - (intOf v11).toNat)
          case atStart => exact ⟨0, s0, cur0, true, Nat.zero_le _, rfl, rfl, HX, HR, HV, HL⟩
          case round =>
            clear HX HR HV HL
            obtain ⟨zz, s, cur, st, hzz, rfl, rfl, HX, HR, HV, HL⟩ := hrel
            by_cases hlt : zz < n
            · as_aux_lemma =>
              have HZL := Lib.hid hlt
              have hk0 : (0 : Int) ≤ (zz : Int) := by omega
              have hk1 : (zz : Int) < (n : Int) := by omega
              go_wp2_with fail
              refine (HPT.out _ HL.out zz).mono ?_
              rintro e w1 ⟨⟨oP, cP, rfl, hP, hPB⟩, hb⟩
              have HP := Lib.hid hP
              have HPB := Lib.hid (show ∀ a, oP = some a → a.block ≠ g from fun a e => by have := hPB a e; have := HX.out.lt; omega)
              clear hPB
              replace HL := Lib.hid (HL.out.trans (hb.mono HL.out.size))
              replace HX := Lib.hid (HX.out.below hb)
              clear hP hb
              have HKL := Lib.hid (kidsTo_len z zz n)
              obtain ⟨M, hM⟩ : ∃ M, M = (kidsTo z zz n).length := ⟨_, rfl⟩
              rw [← hM] at HP HKL ⊢
              have HMM := Lib.hid hM
              clear hM
              have hM12 : M ≤ 12 := by have := HKL.out; omega
              go_wp2_with fail
              refine (HBE.out _ HL.out zz HZL.out).mono ?_
              rintro e w2 ⟨rfl, hb⟩
              replace HP := Lib.hid (HP.out.mono hb)
              replace HL := Lib.hid (HL.out.trans (hb.mono HL.out.size))
              replace HX := Lib.hid (HX.out.below hb)
              clear hb w1
              cases hub : undB z q zz
              · have HV2 := Lib.hid (HV.out.skip fun hu => by rw [undB_iff.2 hu] at hub; cases hub)
                clear hub HV HP
                go_wp2_with fail
                go_roundw
                case rel => exact ⟨zz + 1, s, cur, st, by omega, by go_num, rfl, HX, HR, HV2, HL⟩
                case measure => simp [intOf]; omega
              · have HU := Lib.hid (undB_iff.1 hub)
                clear hub
                by_cases hke : kidsTo z zz n = []
                · have HV2 := Lib.hid (HV.out.skip fun _ => hke)
                  have hM0 : M = 0 := by rw [HMM.out, hke]; rfl
                  subst hM0
                  clear hke HV HP
                  go_wp2_with fail
                  go_roundw
                  case rel => exact ⟨zz + 1, s, cur, st, by omega, by go_num, rfl, HX, HR, HV2, HL⟩
                  case measure => simp [intOf]; omega
                · have HKE := Lib.hid hke
                  have hM1 : 0 < M := by have := List.length_pos_iff.2 hke; have := HMM.out; omega
                  have hmb : ((M : Int) == 0) = false := by simp; omega
                  clear hke
                  obtain ⟨bP, oP9, hoP, -⟩ := HP.out 0 hM1
                  subst hoP
                  have HNP := Lib.hid (HPB.out _ rfl)
                  clear HPB
                  go_upto_region 15 with fail
                  clear hmb
                  obtain ⟨W5, hW5⟩ : ∃ X, X = w2 := ⟨_, rfl⟩
                  rw [← hW5] at HP HL HX ⊢
                  clear hW5 w2
                  have HKB := Lib.hid (kids_bd HZ.out HOK.out hn HU.out (fun i hi hu => by have := HV.out.own i hi hu; omega) (fun i hi hu _ => (HV.out.own i hi hu).2.1))
                  have HDS := Lib.hid (fun (V : World) (hV : Below W5.heap.size W5 V) => dsum_any (some ⟨g, 0, none⟩) (some ⟨bP, oP9, none⟩) n cR cP s (kidsTo z zz n) (-1) V (by have := HKL.out; have := HMM.out; omega) (HR.out.at_ (HX.out.below hV)) (by rw [← HMM.out]; exact HP.out.mono hV) (fun c hc => (kid_gt HZ.out hc).2.1) (fun c hc => by have := HKB.out.1 c hc; omega))
                  rw [← HMM.out] at HDS
                  simp only [sumB_all] at HDS
                  have HKV := Lib.hid (HV.out.stepA HZ.out HOK.out hn HZL.out HU.out HKE.out)
                  have HCT := Lib.hid (fun (V : World) => dcut_any (s zz) ⟨sumL (fun c => (s c).lo) (kidsTo z zz n), sumL (fun c => (s c).hi) (kidsTo z zz n)⟩ V)
                  have HNW := Lib.hid (show cutS (s zz) (sumL (fun c => (s c).lo) (kidsTo z zz n)) (sumL (fun c => (s c).hi) (kidsTo z zz n)) = nowS z n zz s from rfl)
                  simp only [HNW.out] at HCT
                  clear HNW HV
                  have HSF := Lib.hid (show ∀ V, Below W5.heap.size W5 V → g < V.heap.size ∧ V.cell? ⟨g, zz * 2, none⟩ = some (.int .i64 (s zz).lo) ∧ V.cell? ⟨g, zz * 2 + 1, none⟩ = some (.int .i64 (s zz).hi) from fun V hV => ⟨(HX.out.below hV).lt, (HX.out.below hV).cell _ (HR.out.2 zz HZL.out).1, (HX.out.below hV).cell _ (HR.out.2 zz HZL.out).2⟩)
                  obtain ⟨sl, hsl⟩ : ∃ x, x = sumL (fun c => (s c).lo) (kidsTo z zz n) := ⟨_, rfl⟩
                  obtain ⟨sh, hsh⟩ : ∃ x, x = sumL (fun c => (s c).hi) (kidsTo z zz n) := ⟨_, rfl⟩
                  simp only [← hsl, ← hsh] at HDS HCT
                  clear hsl hsh
                  have HR1 := Lib.hid (fun x => HR.out.set HZL.out x)
                  obtain ⟨now, hnow⟩ : ∃ x, x = nowS z n zz s := ⟨_, rfl⟩
                  rw [← hnow] at HKV
                  simp only [← hnow] at HCT
                  clear hnow
                  have HCMP := Lib.hid (fun V : World => eql41 now (s zz) V)
                  obtain ⟨sz, hsz⟩ : ∃ x, x = s zz := ⟨_, rfl⟩
                  rw [← hsz] at HKV HSF
                  simp only [← hsz] at HCT HCMP
                  have HR0 := Lib.hid (HR.out.2 zz HZL.out)
                  have HSC := Lib.hid (show cur[zz * 2]? = some (.int .i64 sz.lo) ∧ cur[zz * 2 + 1]? = some (.int .i64 sz.hi) by rw [hsz]; exact HR.out.2 zz HZL.out)
                  clear hsz
                  obtain ⟨nlo, nhi⟩ := now
                  obtain ⟨zlo, zhi⟩ := sz
                  simp only at HSF HCMP HSC
                  have hCC : ∀ A B : World, Below W5.heap.size W5 A → Below A.heap.size A B → Below W5.heap.size W5 B := fun A B h1 h2 => h1.trans (h2.mono h1.size)
                  have hC0 : Below W5.heap.size W5 W5.drew := (Below.refl _ _).drew
                  refine wp_region_garb (Below W5.heap.size W5) (by kernel_rfl) ?_
                  (refine wpAnyG_take (i := 0) hCC hC0 rfl (by kernel_rfl) (by kernel_rfl) (by kernel_rfl) (fun _ _ _ _ h => h) (by rfl) ?_; apply Exists.intro; refine ⟨fun w1 h1 K hK => ?_, ?_⟩; · ( go_big_quiet_op; first | exact hK | fail))
                  (refine wpAnyG_take (i := 1) hCC hC0 rfl (by kernel_rfl) (by kernel_rfl) (by kernel_rfl) (fun _ _ _ _ h => h) (by rfl) ?_; apply Exists.intro; refine ⟨fun w1 h1 K hK => ?_, ?_⟩; · ( go_big_quiet_op; first | exact hK | fail))
                  (refine wpAnyG_take (i := 2) hCC hC0 rfl (by kernel_rfl) (by kernel_rfl) (by kernel_rfl) (fun _ _ _ _ h => h) (by rfl) ?_; apply Exists.intro; refine ⟨fun w1 h1 K hK => ?_, ?_⟩; · ( go_big_quiet_op; first | exact hK | fail))
                  (refine wpAnyG_take (i := 3) hCC hC0 rfl (by kernel_rfl) (by kernel_rfl) (by kernel_rfl) (fun _ _ _ _ h => h) (by rfl) ?_; apply Exists.intro; refine ⟨fun w1 h1 K hK => ?_, ?_⟩; · (have q1 : ∀ V : Aft w1, V.val.cell? ⟨g, zz * 2, none⟩ = some (.int .i64 zlo) := fun V => (HSF.out V.val (hCC _ _ h1 V.below)).2.1; have q2 : ∀ V : Aft w1, V.val.cell? ⟨g, zz * 2 + 1, none⟩ = some (.int .i64 zhi) := fun V => (HSF.out V.val (hCC _ _ h1 V.below)).2.2; have q3 : ∀ V : Aft w1, g < V.val.heap.size := fun V => (HSF.out V.val (hCC _ _ h1 V.below)).1; go_big_quiet_op; first | exact hK | fail))
                  (refine wpAnyG_take (i := 4) hCC hC0 rfl (by kernel_rfl) (by kernel_rfl) (by kernel_rfl) (fun _ _ _ _ h => h) (by rfl) ?_; apply Exists.intro; refine ⟨fun w1 h1 K hK => ?_, ?_⟩; · ( go_big_quiet_op; first | exact hK | fail))
                  (refine wpAnyG_take (i := 5) hCC hC0 rfl (by kernel_rfl) (by kernel_rfl) (by kernel_rfl) (fun _ _ _ _ h => h) (by rfl) ?_; apply Exists.intro; refine ⟨fun w1 h1 K hK => ?_, ?_⟩; · ( go_big_quiet_op; first | exact hK | fail))
                  (refine wpAnyG_take (i := 6) hCC hC0 rfl (by kernel_rfl) (by kernel_rfl) (by kernel_rfl) (fun _ _ _ _ h => h) (by rfl) ?_; apply Exists.intro; refine ⟨fun w1 h1 K hK => ?_, ?_⟩; · ( go_big_quiet_op; first | exact hK | exact ⟨_, fun V => aft_call (HDS.out V.val (hCC _ _ h1 V.below)), hK⟩))
                  (refine wpAnyG_take (i := 7) hCC hC0 rfl (by kernel_rfl) (by kernel_rfl) (by kernel_rfl) (fun _ _ _ _ h => h) (by rfl) ?_; apply Exists.intro; refine ⟨fun w1 h1 K hK => ?_, ?_⟩; · ( go_big_quiet_op; first | exact hK | exact ⟨_, fun V => aft_call (HCT.out V.val), hK⟩))
                  (refine wpAnyG_one (i := 8) (by kernel_rfl) rfl (by rfl) (fun wa hwa K hK => ?_))
                  go_simp
                  refine hK _ _ ((hCC _ _ hC0 hwa).alloc (by have := hC0.size; have := hwa.size; omega) _) ?_
                  clear hK K
                  have s9 := Box.new (g := wa.heap.size) #[.int .i64 0, .int .i64 0] 41 wa rfl
                  have hC1 := (hCC _ _ hC0 hwa).alloc (by have := hC0.size; have := hwa.size; omega) (.cells #[.int .i64 0, .int .i64 0] 41)
                  have hg9 : W5.heap.size ≤ wa.heap.size := Nat.le_trans hC0.size hwa.size
                  clear hwa
                  obtain ⟨g13, hG⟩ : ∃ G, G = wa.heap.size := ⟨_, rfl⟩
                  obtain ⟨wA, hWA⟩ : ∃ X, X = wa.alloc (.cells #[.int .i64 0, .int .i64 0] 41) := ⟨_, rfl⟩
                  rw [← hG] at s9 hg9 ⊢
                  rw [← hWA] at s9 hC1 ⊢
                  clear hG hWA
                  (refine wpAnyG_one (i := 9) (by kernel_rfl) rfl (by rfl) (fun wb hwb K hK => ?_))
                  refine wp_store_box (s9.below hwb) rfl rfl rfl rfl (by kernel_rfl) (by simp [Value.oneCell']) (fun wc s8 ho => ?_); dsimp only [Act.put]
                  refine hK _ _ ((hCC _ _ hC1 hwb).trans (ho.below hg9)) ?_
                  clear hK K
                  have hC2 := (hCC _ _ hC1 hwb).trans (ho.below hg9)
                  refine wpAnyG_done (by kernel_rfl) (fun wz hwz => ?_) _
                  have H13 := Lib.hid (s8.below hwz)
                  have hby := hCC _ _ hC2 hwz
                  have HN13 := Lib.hid (show g ≠ g13 by have := HX.out.lt; omega)
                  have HG13 := Lib.hid (show w.heap.size ≤ g13 by have := HL.out.size; omega)
                  replace HL := Lib.hid (HL.out.trans (hby.mono HL.out.size))
                  replace HX := Lib.hid (HX.out.below hby)
                  replace HP := Lib.hid (HP.out.mono hby)
                  clear s9 hC1 ho hwb hC0 hC2 hwz hCC s8 hg9 hby HDS HCT HSF HKB W5
                  obtain ⟨W5, hW5⟩ : ∃ X, X = wz := ⟨_, rfl⟩
                  rw [← hW5] at HP HL HX H13 ⊢
                  clear hW5 wz
                  obtain ⟨dq, hdq⟩ : ∃ v, v = decide ((⟨nlo, nhi⟩ : Spn) = ⟨zlo, zhi⟩) := ⟨_, rfl⟩
                  simp only [← hdq] at HCMP
                  rw [← hdq] at HKV
                  clear hdq
                  have hcm : ∀ V : World, (binOp .eql 41 (.agg #[.int .i64 nlo, .int .i64 nhi]) (.agg #[.int .i64 zlo, .int .i64 zhi])).run Try.prog V = .ok (.bool dq) V := fun V => HCMP.out V
                  clear HCMP
                  go_upto_region 16 with fail
                  have HSF := Lib.hid (show ∀ V, Below W5.heap.size W5 V → g < V.heap.size ∧ V.cell? ⟨g, zz * 2, none⟩ = some (.int .i64 zlo) ∧ V.cell? ⟨g, zz * 2 + 1, none⟩ = some (.int .i64 zhi) from fun V hV => by
                    exact ⟨(HX.out.below hV).lt, (HX.out.below hV).cell _ HSC.out.1, (HX.out.below hV).cell _ HSC.out.2⟩)
                  have q1 : ∀ V : Aft W5, V.val.cell? ⟨g, zz * 2, none⟩ = some (.int .i64 zlo) := fun V => (HSF.out V.val V.below).2.1
                  have q2 : ∀ V : Aft W5, V.val.cell? ⟨g, zz * 2 + 1, none⟩ = some (.int .i64 zhi) := fun V => (HSF.out V.val V.below).2.2
                  have q3 : ∀ V : Aft W5, g < V.val.heap.size := fun V => (HSF.out V.val V.below).1
                  have q4 : ∀ V : Aft W5, V.val.cell? ⟨g13, 0, none⟩ = some (.int .i64 nlo) := fun V => (H13.out.below V.below).cell 0 rfl
                  have q5 : ∀ V : Aft W5, V.val.cell? ⟨g13, 1, none⟩ = some (.int .i64 nhi) := fun V => (H13.out.below V.below).cell 1 rfl
                  have q6 : ∀ V : Aft W5, g13 < V.val.heap.size := fun V => (H13.out.below V.below).lt
                  cases st
                  · skip
                    refine wp_region_aft (by kernel_rfl) (by kernel_rfl) ?_
                    repeat (go_big_quiet_step (fail))
                    refine wpQuiet_nil ?_
                    intro WA
                    obtain ⟨wy, hwy⟩ : ∃ X, X = WA.val := ⟨_, rfl⟩
                    have hby := WA.below
                    rw [← hwy] at hby ⊢
                    clear hwy WA
                    obtain ⟨st1, hst1⟩ : ∃ x, x = (false && dq) := ⟨_, rfl⟩
                    rw [← hst1] at HKV
                    have HST1 := Lib.hid (show st1 = false by rw [hst1]; rfl)
                    clear hst1 q1 q2 q3 q4 q5 q6 hcm HSF
                    replace HL := Lib.hid (HL.out.trans (hby.mono HL.out.size))
                    replace HX := Lib.hid (HX.out.below hby)
                    replace HP := Lib.hid (HP.out.mono hby)
                    replace H13 := Lib.hid (H13.out.below hby)
                    clear hby W5
                    have HR2 := Lib.hid (HR1.out ⟨nlo, nhi⟩)
                    clear HR1 HR HSC
                    have hix : ∀ W : World, (Instr.indexAt 24 (.slice (some ⟨g, 0, none⟩) n cR) (.int .i64 (zz : Nat))).run Try.prog W = .ok (.pointer (some ⟨g, zz * 2, none⟩)) W := fun W => ix24 HZL.out W
                    have k0 := H13.out.cell 0 (v := .int .i64 nlo) rfl
                    have k1 := H13.out.cell 1 (v := .int .i64 nhi) rfl
                    have k2 := H13.out.lt
                    have hcz := HR0.out
                    have x0 := HX.out.cell (zz * 2) hcz.1
                    have x1 := HX.out.cell (zz * 2 + 1) hcz.2
                    have x2 := HX.out.frozen (zz * 2)
                    have x3 := HX.out.frozen (zz * 2 + 1)
                    have x4 := HX.out.lt
                    clear hcz
                    go_upto_region 18 with fail
                    have ho := ((Only.refl g wy).setCell (zz * 2) (.int .i64 nlo)).setCell (zz * 2 + 1) (.int .i64 nhi)
                    have HX2 := Lib.hid (show Box g (setA cur (zz * 2) [.int .i64 nlo, .int .i64 nhi]) 41 _ from (HX.out.set (zz * 2) (.int .i64 nlo)).set (zz * 2 + 1) (.int .i64 nhi))
                    replace HL := Lib.hid (HL.out.trans (ho.below HG.out))
                    replace H13 := Lib.hid (ho.box H13.out (Ne.symm HN13.out))
                    have HPX := Lib.hid (ints_only HP.out ho HNP.out)
                    clear HP HX k0 k1 k2 x0 x1 x2 x3 x4 hix ho
                    obtain ⟨W6, hW6⟩ : ∃ X, X = (wy.setCell ⟨g, zz * 2, none⟩ (.int .i64 nlo)).setCell ⟨g, zz * 2 + 1, none⟩ (.int .i64 nhi) := ⟨_, rfl⟩
                    rw [← hW6] at HX2 HL H13 HPX ⊢
                    clear hW6
                    obtain ⟨cur6, hc6⟩ : ∃ c, c = setA cur (zz * 2) [.int .i64 nlo, .int .i64 nhi] := ⟨_, rfl⟩
                    simp only at HR2
                    rw [← hc6] at HX2 HR2
                    clear hc6
                    go_wp2_with fail
                    go_loopw [10, 14] (fun v10 v14 wr => ∃ (k : Nat) (s : Nat → Spn) (cur : Array Value) (st : Bool), k ≤ M ∧ v14 = .int .i64 k ∧ v10 = .bool st ∧ Hid (Box g cur 41 wr) ∧ Hid (SRow n s cur) ∧ Hid (KV z n q s0 zz ⟨nlo, nhi⟩ k s st) ∧ Hid (Box g13 #[.int .i64 nlo, .int .i64 nhi] 41 wr) ∧ Hid (IntsAt wr (some ⟨bP, oP9, none⟩) M (fun j => (((kidsTo z zz n).getD j 0 : Nat) : Int))) ∧ Hid (Below w.heap.size w wr)) (fun _ v14 _ => M - (intOf v14).toNat)
                    case atStart => exact ⟨0, _, cur6, st1, Nat.zero_le _, rfl, by rw [HST1.out], HX2, HR2, HKV, H13, HPX, HL⟩
                    case round =>
                      clear HX2 HR2 HKV H13 HPX HL
                      obtain ⟨k, s2, cur2, st2, hkM, rfl, rfl, HX, HR, HKV, H13, HP, HL⟩ := hrel
                      by_cases hkl : k < M
                      · as_aux_lemma =>
                        have k0 : (0 : Int) ≤ (k : Int) := by omega
                        have k1 : (k : Int) < (M : Int) := by omega
                        have hkk : k < (kidsTo z zz n).length := by have := HMM.out; omega
                        have HMEM := Lib.hid (getD_mem hkk)
                        have HKB := Lib.hid (kids_bd HZ.out HOK.out hn HU.out HKV.out.own HKV.out.ne)
                        have HBN := Lib.hid HKV.out.bnd
                        obtain ⟨c, hc⟩ : ∃ c, c = (kidsTo z zz n).getD k 0 := ⟨_, rfl⟩
                        rw [← hc] at HMEM
                        have HCK := Lib.hid hc
                        have HCG := Lib.hid (kid_gt HZ.out HMEM.out)
                        have c0 : (0 : Int) ≤ (c : Int) := by omega
                        have c1 : (c : Int) < (n : Int) := by have := HCG.out.2.1; omega
                        have HPF := Lib.hid (show ∀ V, Below wr.heap.size wr V → bP < V.heap.size ∧ V.cell? ⟨bP, oP9 + k, none⟩ = some (.int .i64 (c : Nat)) from fun V hV => by
                          obtain ⟨b9, o9, e9, h1, h2⟩ := (HP.out.mono hV) k hkl
                          cases e9
                          rw [hc]
                          exact ⟨h1, h2⟩)
                        have HDS := Lib.hid (fun (V : World) (hV : Below wr.heap.size wr V) => dsum_any (some ⟨g, 0, none⟩) (some ⟨bP, oP9, none⟩) n cR cP s2 (kidsTo z zz n) (c : Int) V (by have := HKL.out; have := HMM.out; omega) (HR.out.at_ (HX.out.below hV)) (by rw [← HMM.out]; exact HP.out.mono hV) (fun c hc => (kid_gt HZ.out hc).2.1) (fun c hc => by have := HKB.out.1 c hc; omega))
                        rw [← HMM.out] at HDS
                        simp only [sumB_one (kids_nodup z zz n) HMEM.out] at HDS
                        have HNXT := Lib.hid (show nextS z n zz ⟨nlo, nhi⟩ s2 c = cutS (s2 c) (nlo - (sumL (fun c => (s2 c).hi) (kidsTo z zz n) - (s2 c).hi)) (nhi - (sumL (fun c => (s2 c).lo) (kidsTo z zz n) - (s2 c).lo)) from rfl)
                        have HSTB := Lib.hid (fun h => HKV.out.stepB (c := c) HZ.out HZL.out HU.out hkk hc h)
                        have HBAD := Lib.hid (fun h => HKV.out.bad (c := c) HZ.out HZL.out HU.out HMEM.out h)
                        have HRC := Lib.hid (HR.out.2 c HCG.out.2.1)
                        have HRZ := Lib.hid (show cur2[zz * 2]? = some (.int .i64 nlo) ∧ cur2[zz * 2 + 1]? = some (.int .i64 nhi) by
                          have h1 := HR.out.2 zz HZL.out
                          rw [HKV.out.at_] at h1
                          exact h1)
                        have HRS := Lib.hid (fun x => HR.out.set HCG.out.2.1 x)
                        have HKC := Lib.hid (HKB.out.1 c HMEM.out)
                        have HKS := Lib.hid HKB.out.2
                        obtain ⟨sl, hsl⟩ : ∃ x, x = sumL (fun c => (s2 c).lo) (kidsTo z zz n) := ⟨_, rfl⟩
                        obtain ⟨sh, hsh⟩ : ∃ x, x = sumL (fun c => (s2 c).hi) (kidsTo z zz n) := ⟨_, rfl⟩
                        simp only [← hsl, ← hsh] at HDS
                        rw [← hsl, ← hsh] at HNXT HKS
                        clear hsl hsh HKB hc HKV HR
                        obtain ⟨nx, hnx⟩ : ∃ x, x = nextS z n zz ⟨nlo, nhi⟩ s2 c := ⟨_, rfl⟩
                        rw [← hnx] at HNXT
                        simp only [← hnx] at HSTB HBAD
                        clear hnx
                        obtain ⟨sc, hsc⟩ : ∃ x, x = s2 c := ⟨_, rfl⟩
                        rw [← hsc] at HNXT HRC HKC
                        simp only [← hsc] at HSTB HDS
                        clear hsc
                        obtain ⟨xlo, xhi⟩ := nx
                        obtain ⟨slo, shi⟩ := sc
                        simp only at HNXT HRC HKC HBAD HSTB HDS HBN
                        obtain ⟨⟨y1, y2⟩, y3, y4⟩ := HKC.out
                        obtain ⟨⟨y5, y6⟩, y7, y8⟩ := HKS.out
                        obtain ⟨b1, b2, b3, b4⟩ := HBN.out
                        obtain ⟨pB, pC⟩ := HPF.out wr (Below.refl _ _)
                        go_wp2_with fail
                        refine (HDS.out _ (Below.refl _ _)).mono ?_
                        rintro e w7 ⟨rfl, hb⟩
                        clear pB pC
                        go_upto_region 22 with fail
                        have H15 := Lib.hid (Box.new (g := w7.heap.size) #[.int .i64 (sl - slo), .int .i64 (sh - shi)] 41 w7 rfl)
                        have hb2 := hb.alloc hb.size (.cells #[.int .i64 (sl - slo), .int .i64 (sh - shi)] 41)
                        obtain ⟨g15, hG⟩ : ∃ G, G = w7.heap.size := ⟨_, rfl⟩
                        obtain ⟨W8, hW8⟩ : ∃ X, X = w7.alloc (.cells #[.int .i64 (sl - slo), .int .i64 (sh - shi)] 41) := ⟨_, rfl⟩
                        rw [← hW8] at H15 hb2 ⊢
                        rw [← hG] at H15 ⊢
                        replace HPF := Lib.hid (show ∀ V, Below W8.heap.size W8 V → bP < V.heap.size ∧ V.cell? ⟨bP, oP9 + k, none⟩ = some (.int .i64 (c : Nat)) from fun V hV => HPF.out V (hb2.trans (hV.mono hb2.size)))
                        replace HX := Lib.hid (HX.out.below hb2)
                        replace H13 := Lib.hid (H13.out.below hb2)
                        replace HP := Lib.hid (HP.out.mono hb2)
                        replace HL := Lib.hid (HL.out.trans (hb2.mono HL.out.size))
                        clear hb hb2 hW8 hG w7 HDS wr
                        have HCT := Lib.hid (fun (V : World) => dcut_any ⟨slo, shi⟩ ⟨nlo - (sh - shi), nhi - (sl - slo)⟩ V)
                        simp only [← HNXT.out] at HCT
                        clear HNXT
                        have hCC : ∀ A B : World, Below W8.heap.size W8 A → Below A.heap.size A B → Below W8.heap.size W8 B := fun A B h1 h2 => h1.trans (h2.mono h1.size)
                        have hC0 : Below W8.heap.size W8 W8.drew := (Below.refl _ _).drew
                        refine wp_region_garb (Below W8.heap.size W8) (by kernel_rfl) ?_
                        (refine wpAnyG_take (i := 0) hCC hC0 rfl (by kernel_rfl) (by kernel_rfl) (by kernel_rfl) (fun _ _ _ _ h => h) (by rfl) ?_; apply Exists.intro; refine ⟨fun w1 h1 K hK => ?_, ?_⟩; · ( go_big_quiet_op; first | exact hK | fail))
                        (refine wpAnyG_take (i := 1) hCC hC0 rfl (by kernel_rfl) (by kernel_rfl) (by kernel_rfl) (fun _ _ _ _ h => h) (by rfl) ?_; apply Exists.intro; refine ⟨fun w1 h1 K hK => ?_, ?_⟩; · ( go_big_quiet_op; first | exact hK | fail))
                        (refine wpAnyG_take (i := 2) hCC hC0 rfl (by kernel_rfl) (by kernel_rfl) (by kernel_rfl) (fun _ _ _ _ h => h) (by rfl) ?_; apply Exists.intro; refine ⟨fun w1 h1 K hK => ?_, ?_⟩; · ( go_big_quiet_op; first | exact hK | fail))
                        (refine wpAnyG_take (i := 3) hCC hC0 rfl (by kernel_rfl) (by kernel_rfl) (by kernel_rfl) (fun _ _ _ _ h => h) (by rfl) ?_; apply Exists.intro; refine ⟨fun w1 h1 K hK => ?_, ?_⟩; · ( go_big_quiet_op; first | exact hK | fail))
                        (refine wpAnyG_take (i := 4) hCC hC0 rfl (by kernel_rfl) (by kernel_rfl) (by kernel_rfl) (fun _ _ _ _ h => h) (by rfl) ?_; apply Exists.intro; refine ⟨fun w1 h1 K hK => ?_, ?_⟩; · (have q7 : ∀ V : Aft w1, V.val.cell? ⟨bP, oP9 + k, none⟩ = some (.int .i64 (c : Nat)) := fun V => (HPF.out V.val (hCC _ _ h1 V.below)).2; have q8 : ∀ V : Aft w1, bP < V.val.heap.size := fun V => (HPF.out V.val (hCC _ _ h1 V.below)).1; go_big_quiet_op; first | exact hK | fail))
                        (refine wpAnyG_take (i := 5) hCC hC0 rfl (by kernel_rfl) (by kernel_rfl) (by kernel_rfl) (fun _ _ _ _ h => h) (by rfl) ?_; apply Exists.intro; refine ⟨fun w1 h1 K hK => ?_, ?_⟩; · ( go_big_quiet_op; first | exact hK | fail))
                        (refine wpAnyG_take (i := 6) hCC hC0 rfl (by kernel_rfl) (by kernel_rfl) (by kernel_rfl) (fun _ _ _ _ h => h) (by rfl) ?_; apply Exists.intro; refine ⟨fun w1 h1 K hK => ?_, ?_⟩; · (have q1 : ∀ V : Aft w1, V.val.cell? ⟨g, c * 2, none⟩ = some (.int .i64 slo) := fun V => (HX.out.below (hCC _ _ h1 V.below)).cell _ HRC.out.1; have q2 : ∀ V : Aft w1, V.val.cell? ⟨g, c * 2 + 1, none⟩ = some (.int .i64 shi) := fun V => (HX.out.below (hCC _ _ h1 V.below)).cell _ HRC.out.2; have q3 : ∀ V : Aft w1, g < V.val.heap.size := fun V => (HX.out.below (hCC _ _ h1 V.below)).lt; go_big_quiet_op; first | exact hK | fail))
                        (refine wpAnyG_take (i := 7) hCC hC0 rfl (by kernel_rfl) (by kernel_rfl) (by kernel_rfl) (fun _ _ _ _ h => h) (by rfl) ?_; apply Exists.intro; refine ⟨fun w1 h1 K hK => ?_, ?_⟩; · ( go_big_quiet_op; first | exact hK | fail))
                        (refine wpAnyG_take (i := 8) hCC hC0 rfl (by kernel_rfl) (by kernel_rfl) (by kernel_rfl) (fun _ _ _ _ h => h) (by rfl) ?_; apply Exists.intro; refine ⟨fun w1 h1 K hK => ?_, ?_⟩; · ( go_big_quiet_op; first | exact hK | fail))
                        (refine wpAnyG_take (i := 9) hCC hC0 rfl (by kernel_rfl) (by kernel_rfl) (by kernel_rfl) (fun _ _ _ _ h => h) (by rfl) ?_; apply Exists.intro; refine ⟨fun w1 h1 K hK => ?_, ?_⟩; · ( go_big_quiet_op; first | exact hK | fail))
                        (refine wpAnyG_take (i := 10) hCC hC0 rfl (by kernel_rfl) (by kernel_rfl) (by kernel_rfl) (fun _ _ _ _ h => h) (by rfl) ?_; apply Exists.intro; refine ⟨fun w1 h1 K hK => ?_, ?_⟩; · (have q3 : ∀ V : Aft w1, g < V.val.heap.size := fun V => (HX.out.below (hCC _ _ h1 V.below)).lt; go_big_quiet_op; first | exact hK | fail))
                        (refine wpAnyG_take (i := 11) hCC hC0 rfl (by kernel_rfl) (by kernel_rfl) (by kernel_rfl) (fun _ _ _ _ h => h) (by rfl) ?_; apply Exists.intro; refine ⟨fun w1 h1 K hK => ?_, ?_⟩; · (have q1 : ∀ V : Aft w1, V.val.cell? ⟨g, zz * 2, none⟩ = some (.int .i64 nlo) := fun V => (HX.out.below (hCC _ _ h1 V.below)).cell _ HRZ.out.1; go_big_quiet_op; first | exact hK | fail))
                        (refine wpAnyG_take (i := 12) hCC hC0 rfl (by kernel_rfl) (by kernel_rfl) (by kernel_rfl) (fun _ _ _ _ h => h) (by rfl) ?_; apply Exists.intro; refine ⟨fun w1 h1 K hK => ?_, ?_⟩; · (have q6 : ∀ V : Aft w1, g15 < V.val.heap.size := fun V => (H15.out.below (hCC _ _ h1 V.below)).lt; go_big_quiet_op; first | exact hK | fail))
                        (refine wpAnyG_take (i := 13) hCC hC0 rfl (by kernel_rfl) (by kernel_rfl) (by kernel_rfl) (fun _ _ _ _ h => h) (by rfl) ?_; apply Exists.intro; refine ⟨fun w1 h1 K hK => ?_, ?_⟩; · (have q6 : ∀ V : Aft w1, V.val.cell? ⟨g15, 1, none⟩ = some (.int .i64 (sh - shi)) := fun V => (H15.out.below (hCC _ _ h1 V.below)).cell 1 rfl; go_big_quiet_op; first | exact hK | fail))
                        (refine wpAnyG_take (i := 14) hCC hC0 rfl (by kernel_rfl) (by kernel_rfl) (by kernel_rfl) (fun _ _ _ _ h => h) (by rfl) ?_; apply Exists.intro; refine ⟨fun w1 h1 K hK => ?_, ?_⟩; · ( go_big_quiet_op; first | exact hK | fail))
                        (refine wpAnyG_take (i := 15) hCC hC0 rfl (by kernel_rfl) (by kernel_rfl) (by kernel_rfl) (fun _ _ _ _ h => h) (by rfl) ?_; apply Exists.intro; refine ⟨fun w1 h1 K hK => ?_, ?_⟩; · ( go_big_quiet_op; first | exact hK | fail))
                        (refine wpAnyG_take (i := 16) hCC hC0 rfl (by kernel_rfl) (by kernel_rfl) (by kernel_rfl) (fun _ _ _ _ h => h) (by rfl) ?_; apply Exists.intro; refine ⟨fun w1 h1 K hK => ?_, ?_⟩; · ( go_big_quiet_op; first | exact hK | fail))
                        (refine wpAnyG_take (i := 17) hCC hC0 rfl (by kernel_rfl) (by kernel_rfl) (by kernel_rfl) (fun _ _ _ _ h => h) (by rfl) ?_; apply Exists.intro; refine ⟨fun w1 h1 K hK => ?_, ?_⟩; · ( go_big_quiet_op; first | exact hK | fail))
                        (refine wpAnyG_take (i := 18) hCC hC0 rfl (by kernel_rfl) (by kernel_rfl) (by kernel_rfl) (fun _ _ _ _ h => h) (by rfl) ?_; apply Exists.intro; refine ⟨fun w1 h1 K hK => ?_, ?_⟩; · (have q3 : ∀ V : Aft w1, g < V.val.heap.size := fun V => (HX.out.below (hCC _ _ h1 V.below)).lt; go_big_quiet_op; first | exact hK | fail))
                        (refine wpAnyG_take (i := 19) hCC hC0 rfl (by kernel_rfl) (by kernel_rfl) (by kernel_rfl) (fun _ _ _ _ h => h) (by rfl) ?_; apply Exists.intro; refine ⟨fun w1 h1 K hK => ?_, ?_⟩; · (have q1 : ∀ V : Aft w1, V.val.cell? ⟨g, zz * 2 + 1, none⟩ = some (.int .i64 nhi) := fun V => (HX.out.below (hCC _ _ h1 V.below)).cell _ HRZ.out.2; go_big_quiet_op; first | exact hK | fail))
                        (refine wpAnyG_take (i := 20) hCC hC0 rfl (by kernel_rfl) (by kernel_rfl) (by kernel_rfl) (fun _ _ _ _ h => h) (by rfl) ?_; apply Exists.intro; refine ⟨fun w1 h1 K hK => ?_, ?_⟩; · (have q6 : ∀ V : Aft w1, g15 < V.val.heap.size := fun V => (H15.out.below (hCC _ _ h1 V.below)).lt; go_big_quiet_op; first | exact hK | fail))
                        (refine wpAnyG_take (i := 21) hCC hC0 rfl (by kernel_rfl) (by kernel_rfl) (by kernel_rfl) (fun _ _ _ _ h => h) (by rfl) ?_; apply Exists.intro; refine ⟨fun w1 h1 K hK => ?_, ?_⟩; · (have q6 : ∀ V : Aft w1, V.val.cell? ⟨g15, 0, none⟩ = some (.int .i64 (sl - slo)) := fun V => (H15.out.below (hCC _ _ h1 V.below)).cell 0 rfl; go_big_quiet_op; first | exact hK | fail))
                        (refine wpAnyG_take (i := 22) hCC hC0 rfl (by kernel_rfl) (by kernel_rfl) (by kernel_rfl) (fun _ _ _ _ h => h) (by rfl) ?_; apply Exists.intro; refine ⟨fun w1 h1 K hK => ?_, ?_⟩; · ( go_big_quiet_op; first | exact hK | fail))
                        (refine wpAnyG_take (i := 23) hCC hC0 rfl (by kernel_rfl) (by kernel_rfl) (by kernel_rfl) (fun _ _ _ _ h => h) (by rfl) ?_; apply Exists.intro; refine ⟨fun w1 h1 K hK => ?_, ?_⟩; · ( go_big_quiet_op; first | exact hK | fail))
                        (refine wpAnyG_take (i := 24) hCC hC0 rfl (by kernel_rfl) (by kernel_rfl) (by kernel_rfl) (fun _ _ _ _ h => h) (by rfl) ?_; apply Exists.intro; refine ⟨fun w1 h1 K hK => ?_, ?_⟩; · ( go_big_quiet_op; first | exact hK | exact ⟨_, fun V => aft_call (HCT.out V.val), hK⟩))
                        (refine wpAnyG_one (i := 25) (by kernel_rfl) rfl (by rfl) (fun wa hwa K hK => ?_))
                        go_simp
                        refine hK _ _ ((hCC _ _ hC0 hwa).alloc (by have := hC0.size; have := hwa.size; omega) _) ?_
                        clear hK K
                        have s9 := Box.new (g := wa.heap.size) #[.int .i64 0, .int .i64 0] 41 wa rfl
                        have hC1 := (hCC _ _ hC0 hwa).alloc (by have := hC0.size; have := hwa.size; omega) (.cells #[.int .i64 0, .int .i64 0] 41)
                        have hg9 : W8.heap.size ≤ wa.heap.size := Nat.le_trans hC0.size hwa.size
                        clear hwa
                        obtain ⟨g16, hG⟩ : ∃ G, G = wa.heap.size := ⟨_, rfl⟩
                        obtain ⟨wA, hWA⟩ : ∃ X, X = wa.alloc (.cells #[.int .i64 0, .int .i64 0] 41) := ⟨_, rfl⟩
                        rw [← hG] at s9 hg9 ⊢
                        rw [← hWA] at s9 hC1 ⊢
                        clear hG hWA
                        (refine wpAnyG_one (i := 26) (by kernel_rfl) rfl (by rfl) (fun wb hwb K hK => ?_))
                        refine wp_store_box (s9.below hwb) rfl rfl rfl rfl (by kernel_rfl) (by simp [Value.oneCell']) (fun wc s8 ho => ?_); dsimp only [Act.put]
                        refine hK _ _ ((hCC _ _ hC1 hwb).trans (ho.below hg9)) ?_
                        clear hK K
                        have hC2 := (hCC _ _ hC1 hwb).trans (ho.below hg9)
                        refine wpAnyG_done (by kernel_rfl) (fun wz hwz => ?_) _
                        have H16 := Lib.hid (s8.below hwz)
                        have hby := hCC _ _ hC2 hwz
                        have HN16 := Lib.hid (show g ≠ g16 by have := HX.out.lt; omega)
                        replace HL := Lib.hid (HL.out.trans (hby.mono HL.out.size))
                        replace HX := Lib.hid (HX.out.below hby)
                        replace HP := Lib.hid (HP.out.mono hby)
                        replace H13 := Lib.hid (H13.out.below hby)
                        replace HPF := Lib.hid (show ∀ V, Below wz.heap.size wz V → bP < V.heap.size ∧ V.cell? ⟨bP, oP9 + k, none⟩ = some (.int .i64 (c : Nat)) from fun V hV => HPF.out V (hby.trans (hV.mono hby.size)))
                        clear s9 hC1 ho hwb hC0 hC2 hwz hCC s8 hg9 hby HCT H15 W8
                        have HCMP := Lib.hid (fun V : World => eql41 ⟨xlo, xhi⟩ ⟨slo, shi⟩ V)
                        obtain ⟨dq, hdq⟩ : ∃ v, v = decide ((⟨xlo, xhi⟩ : Spn) = ⟨slo, shi⟩) := ⟨_, rfl⟩
                        simp only [← hdq] at HCMP HSTB
                        clear hdq
                        have hcm : ∀ V : World, (binOp .eql 41 (.agg #[.int .i64 xlo, .int .i64 xhi]) (.agg #[.int .i64 slo, .int .i64 shi])).run Try.prog V = .ok (.bool dq) V := fun V => HCMP.out V
                        clear HCMP
                        go_upto_region 23 with fail
                        have q1 : ∀ V : Aft wz, V.val.cell? ⟨g, c * 2, none⟩ = some (.int .i64 slo) := fun V => (HX.out.below V.below).cell _ HRC.out.1
                        have q2 : ∀ V : Aft wz, V.val.cell? ⟨g, c * 2 + 1, none⟩ = some (.int .i64 shi) := fun V => (HX.out.below V.below).cell _ HRC.out.2
                        have q3 : ∀ V : Aft wz, g < V.val.heap.size := fun V => (HX.out.below V.below).lt
                        have q4 : ∀ V : Aft wz, V.val.cell? ⟨g16, 0, none⟩ = some (.int .i64 xlo) := fun V => (H16.out.below V.below).cell 0 rfl
                        have q5 : ∀ V : Aft wz, V.val.cell? ⟨g16, 1, none⟩ = some (.int .i64 xhi) := fun V => (H16.out.below V.below).cell 1 rfl
                        have q6 : ∀ V : Aft wz, g16 < V.val.heap.size := fun V => (H16.out.below V.below).lt
                        have q7 : ∀ V : Aft wz, V.val.cell? ⟨bP, oP9 + k, none⟩ = some (.int .i64 (c : Nat)) := fun V => (HPF.out V.val V.below).2
                        have q8 : ∀ V : Aft wz, bP < V.val.heap.size := fun V => (HPF.out V.val V.below).1
                        cases st2
                        · skip
                          refine wp_region_aft (by kernel_rfl) (by kernel_rfl) ?_
                          repeat (go_big_quiet_step (fail))
                          refine wpQuiet_nil ?_
                          intro WA
                          obtain ⟨wy, hwy⟩ : ∃ X, X = WA.val := ⟨_, rfl⟩
                          have hby := WA.below
                          rw [← hwy] at hby ⊢
                          clear hwy WA
                          clear q1 q2 q3 q4 q5 q6 q7 q8 hcm
                          obtain ⟨st3, hst3⟩ : ∃ x, x = (false && dq) := ⟨_, rfl⟩
                          simp only [← hst3] at HSTB
                          have HST3 := Lib.hid (show false = st3 by rw [hst3]; rfl)
                          clear hst3
                          replace HL := Lib.hid (HL.out.trans (hby.mono HL.out.size))
                          replace HX := Lib.hid (HX.out.below hby)
                          replace HP := Lib.hid (HP.out.mono hby)
                          replace H13 := Lib.hid (H13.out.below hby)
                          replace H16 := Lib.hid (H16.out.below hby)
                          replace HPF := Lib.hid (show ∀ V, Below wy.heap.size wy V → bP < V.heap.size ∧ V.cell? ⟨bP, oP9 + k, none⟩ = some (.int .i64 (c : Nat)) from fun V hV => HPF.out V (hby.trans (hV.mono hby.size)))
                          clear hby wz
                          go_upto_region 24 with fail
                          have hP0 : ∀ A B : World, Below wy.heap.size wy A → Below A.heap.size A B → Below wy.heap.size wy B := fun A B h1 h2 => h1.trans (h2.mono h1.size)
                          have hP1 : ∀ A B : World, g < A.heap.size → Below A.heap.size A B → g < B.heap.size := fun _ _ h1 h2 => Nat.lt_of_lt_of_le h1 h2.size
                          have hP01 : ∀ A : World, Below wy.heap.size wy A → g < A.heap.size := fun _ h1 => Nat.lt_of_lt_of_le HX.out.lt h1.size
                          have hC0 : Below wy.heap.size wy wy.drew := (Below.refl _ _).drew
                          refine wp_region_phase 7 (fun A => Below wy.heap.size wy A) (fun A => g < A.heap.size) (by kernel_rfl) ?_
                          (refine wpAnyP_take0 (i := 0) hP0 hP1 hC0 (by decide) (by rfl) rfl (by kernel_rfl) rfl (by kernel_rfl) (by kernel_rfl) (by kernel_rfl) (fun _ _ _ _ h => h) (by rfl) ?_; apply Exists.intro; refine ⟨fun w1 h1 K hK => ?_, ?_⟩; · ( go_big_quiet_op; first | exact hK | fail))
                          (refine wpAnyP_take0 (i := 1) hP0 hP1 hC0 (by decide) (by rfl) rfl (by kernel_rfl) rfl (by kernel_rfl) (by kernel_rfl) (by kernel_rfl) (fun _ _ _ _ h => h) (by rfl) ?_; apply Exists.intro; refine ⟨fun w1 h1 K hK => ?_, ?_⟩; · ( go_big_quiet_op; first | exact hK | fail))
                          (refine wpAnyP_take0 (i := 2) hP0 hP1 hC0 (by decide) (by rfl) rfl (by kernel_rfl) rfl (by kernel_rfl) (by kernel_rfl) (by kernel_rfl) (fun _ _ _ _ h => h) (by rfl) ?_; apply Exists.intro; refine ⟨fun w1 h1 K hK => ?_, ?_⟩; · ( go_big_quiet_op; first | exact hK | fail))
                          (refine wpAnyP_take0 (i := 3) hP0 hP1 hC0 (by decide) (by rfl) rfl (by kernel_rfl) rfl (by kernel_rfl) (by kernel_rfl) (by kernel_rfl) (fun _ _ _ _ h => h) (by rfl) ?_; apply Exists.intro; refine ⟨fun w1 h1 K hK => ?_, ?_⟩; · ( go_big_quiet_op; first | exact hK | fail))
                          (refine wpAnyP_take0 (i := 4) hP0 hP1 hC0 (by decide) (by rfl) rfl (by kernel_rfl) rfl (by kernel_rfl) (by kernel_rfl) (by kernel_rfl) (fun _ _ _ _ h => h) (by rfl) ?_; apply Exists.intro; refine ⟨fun w1 h1 K hK => ?_, ?_⟩; · (have q7 : ∀ V : Aft w1, V.val.cell? ⟨bP, oP9 + k, none⟩ = some (.int .i64 (c : Nat)) := fun V => (HPF.out V.val (hP0 _ _ h1 V.below)).2; have q8 : ∀ V : Aft w1, bP < V.val.heap.size := fun V => (HPF.out V.val (hP0 _ _ h1 V.below)).1; go_big_quiet_op; first | exact hK | fail))
                          (refine wpAnyP_take0 (i := 5) hP0 hP1 hC0 (by decide) (by rfl) rfl (by kernel_rfl) rfl (by kernel_rfl) (by kernel_rfl) (by kernel_rfl) (fun _ _ _ _ h => h) (by rfl) ?_; apply Exists.intro; refine ⟨fun w1 h1 K hK => ?_, ?_⟩; · (have q4 : ∀ V : Aft w1, V.val.cell? ⟨g16, 0, none⟩ = some (.int .i64 xlo) := fun V => (H16.out.below (hP0 _ _ h1 V.below)).cell 0 rfl; have q5 : ∀ V : Aft w1, V.val.cell? ⟨g16, 1, none⟩ = some (.int .i64 xhi) := fun V => (H16.out.below (hP0 _ _ h1 V.below)).cell 1 rfl; have q6 : ∀ V : Aft w1, g16 < V.val.heap.size := fun V => (H16.out.below (hP0 _ _ h1 V.below)).lt; go_big_quiet_op; first | exact hK | fail))
                          (refine wpAnyP_take1 (i := 6) hP0 hP1 hP01 hC0 (by decide) rfl (by kernel_rfl) (by kernel_rfl) (by kernel_rfl) (fun _ _ _ _ h => h) (by rfl) ?_; apply Exists.intro; refine ⟨fun w1 h1 K hK => ?_, ?_⟩; · ( go_big_quiet_op; first | exact hK | fail))
                          (refine wpAnyP_one (i := 7) (by kernel_rfl) rfl (by rfl) (fun wa hwa K hK => ?_))
                          have hA1 := hP0 _ _ hC0 hwa
                          have hrs := (HRS.out ⟨xlo, xhi⟩)
                          have hsz : n * 2 ≤ cur2.size := by have := hrs.1; rw [setA_size] at this; exact this
                          have hcn := HCG.out.2.1
                          refine wp_store_at (HX.out.below hA1) rfl rfl rfl (by simp; omega) (by kernel_rfl) (by simp [Value.oneCell']) (fun wb zs ho => ?_)
                          dsimp only [Act.put]
                          have hLb := (HL.out.trans (hA1.mono HL.out.size)).trans (ho.below HG.out)
                          refine hK _ _ zs.lt ?_
                          clear hK K
                          refine wpAnyP_done (by kernel_rfl) (fun wd hwd => ?_) _
                          have HX2 := Lib.hid (show Box g (setA cur2 (c * 2) [.int .i64 xlo, .int .i64 xhi]) 41 wd from zs.below hwd)
                          have HL2 := Lib.hid (hLb.trans (hwd.mono hLb.size))
                          have H132 := Lib.hid ((ho.box (H13.out.below hA1) (Ne.symm HN13.out)).below hwd)
                          have H162 := Lib.hid ((ho.box (H16.out.below hA1) (Ne.symm HN16.out)).below hwd)
                          have HP2 := Lib.hid ((ints_only (HP.out.mono hA1) ho HNP.out).mono hwd)
                          have HR2 := Lib.hid hrs
                          clear hP0 hP1 hP01 hC0 hwa hA1 zs ho hLb hwd hrs hsz hcn HX HL H13 H16 HP HPF HRC HRZ HRS
                          have f0 := H162.out.cell 0 (v := .int .i64 xlo) rfl
                          have f1 := H162.out.cell 1 (v := .int .i64 xhi) rfl
                          have f2 := H162.out.lt
                          by_cases hle : xlo ≤ xhi
                          · have HK2 := Lib.hid (HSTB.out hle)
                            have hd : decide (xhi < xlo) = false := decide_eq_false (by omega)
                            clear HSTB HBAD
                            go_wp2_with fail
                            go_roundw
                            case rel => exact ⟨k + 1, _, _, st3, by omega, by go_num, by rw [HST3.out], HX2, HR2, HK2, H132, HP2, HL2⟩
                            case measure => simp [intOf]; omega
                          · have HBD := Lib.hid (HBAD.out (by omega))
                            have hd : decide (xhi < xlo) = true := decide_eq_true (by omega)
                            clear HSTB HBAD
                            go_wp2_with fail
                            refine bodyPost_ret (v := .tuple #[.slice none 0 0, .bool false]) (by simp [results, Try.results39, go_sem]) rfl ⟨HL2.out, .inl ⟨rfl, HBD.out⟩⟩
                        · skip
                          refine wp_region_aft (by kernel_rfl) (by kernel_rfl) ?_
                          repeat (go_big_quiet_step (fail))
                          refine wpQuiet_nil ?_
                          intro WA
                          obtain ⟨wy, hwy⟩ : ∃ X, X = WA.val := ⟨_, rfl⟩
                          have hby := WA.below
                          rw [← hwy] at hby ⊢
                          clear hwy WA
                          clear q1 q2 q3 q4 q5 q6 q7 q8 hcm
                          obtain ⟨st3, hst3⟩ : ∃ x, x = (true && dq) := ⟨_, rfl⟩
                          simp only [← hst3] at HSTB
                          have HST3 := Lib.hid (show dq = st3 by rw [hst3]; rfl)
                          clear hst3
                          replace HL := Lib.hid (HL.out.trans (hby.mono HL.out.size))
                          replace HX := Lib.hid (HX.out.below hby)
                          replace HP := Lib.hid (HP.out.mono hby)
                          replace H13 := Lib.hid (H13.out.below hby)
                          replace H16 := Lib.hid (H16.out.below hby)
                          replace HPF := Lib.hid (show ∀ V, Below wy.heap.size wy V → bP < V.heap.size ∧ V.cell? ⟨bP, oP9 + k, none⟩ = some (.int .i64 (c : Nat)) from fun V hV => HPF.out V (hby.trans (hV.mono hby.size)))
                          clear hby wz
                          go_upto_region 24 with fail
                          have hP0 : ∀ A B : World, Below wy.heap.size wy A → Below A.heap.size A B → Below wy.heap.size wy B := fun A B h1 h2 => h1.trans (h2.mono h1.size)
                          have hP1 : ∀ A B : World, g < A.heap.size → Below A.heap.size A B → g < B.heap.size := fun _ _ h1 h2 => Nat.lt_of_lt_of_le h1 h2.size
                          have hP01 : ∀ A : World, Below wy.heap.size wy A → g < A.heap.size := fun _ h1 => Nat.lt_of_lt_of_le HX.out.lt h1.size
                          have hC0 : Below wy.heap.size wy wy.drew := (Below.refl _ _).drew
                          refine wp_region_phase 7 (fun A => Below wy.heap.size wy A) (fun A => g < A.heap.size) (by kernel_rfl) ?_
                          (refine wpAnyP_take0 (i := 0) hP0 hP1 hC0 (by decide) (by rfl) rfl (by kernel_rfl) rfl (by kernel_rfl) (by kernel_rfl) (by kernel_rfl) (fun _ _ _ _ h => h) (by rfl) ?_; apply Exists.intro; refine ⟨fun w1 h1 K hK => ?_, ?_⟩; · ( go_big_quiet_op; first | exact hK | fail))
                          (refine wpAnyP_take0 (i := 1) hP0 hP1 hC0 (by decide) (by rfl) rfl (by kernel_rfl) rfl (by kernel_rfl) (by kernel_rfl) (by kernel_rfl) (fun _ _ _ _ h => h) (by rfl) ?_; apply Exists.intro; refine ⟨fun w1 h1 K hK => ?_, ?_⟩; · ( go_big_quiet_op; first | exact hK | fail))
                          (refine wpAnyP_take0 (i := 2) hP0 hP1 hC0 (by decide) (by rfl) rfl (by kernel_rfl) rfl (by kernel_rfl) (by kernel_rfl) (by kernel_rfl) (fun _ _ _ _ h => h) (by rfl) ?_; apply Exists.intro; refine ⟨fun w1 h1 K hK => ?_, ?_⟩; · ( go_big_quiet_op; first | exact hK | fail))
                          (refine wpAnyP_take0 (i := 3) hP0 hP1 hC0 (by decide) (by rfl) rfl (by kernel_rfl) rfl (by kernel_rfl) (by kernel_rfl) (by kernel_rfl) (fun _ _ _ _ h => h) (by rfl) ?_; apply Exists.intro; refine ⟨fun w1 h1 K hK => ?_, ?_⟩; · ( go_big_quiet_op; first | exact hK | fail))
                          (refine wpAnyP_take0 (i := 4) hP0 hP1 hC0 (by decide) (by rfl) rfl (by kernel_rfl) rfl (by kernel_rfl) (by kernel_rfl) (by kernel_rfl) (fun _ _ _ _ h => h) (by rfl) ?_; apply Exists.intro; refine ⟨fun w1 h1 K hK => ?_, ?_⟩; · (have q7 : ∀ V : Aft w1, V.val.cell? ⟨bP, oP9 + k, none⟩ = some (.int .i64 (c : Nat)) := fun V => (HPF.out V.val (hP0 _ _ h1 V.below)).2; have q8 : ∀ V : Aft w1, bP < V.val.heap.size := fun V => (HPF.out V.val (hP0 _ _ h1 V.below)).1; go_big_quiet_op; first | exact hK | fail))
                          (refine wpAnyP_take0 (i := 5) hP0 hP1 hC0 (by decide) (by rfl) rfl (by kernel_rfl) rfl (by kernel_rfl) (by kernel_rfl) (by kernel_rfl) (fun _ _ _ _ h => h) (by rfl) ?_; apply Exists.intro; refine ⟨fun w1 h1 K hK => ?_, ?_⟩; · (have q4 : ∀ V : Aft w1, V.val.cell? ⟨g16, 0, none⟩ = some (.int .i64 xlo) := fun V => (H16.out.below (hP0 _ _ h1 V.below)).cell 0 rfl; have q5 : ∀ V : Aft w1, V.val.cell? ⟨g16, 1, none⟩ = some (.int .i64 xhi) := fun V => (H16.out.below (hP0 _ _ h1 V.below)).cell 1 rfl; have q6 : ∀ V : Aft w1, g16 < V.val.heap.size := fun V => (H16.out.below (hP0 _ _ h1 V.below)).lt; go_big_quiet_op; first | exact hK | fail))
                          (refine wpAnyP_take1 (i := 6) hP0 hP1 hP01 hC0 (by decide) rfl (by kernel_rfl) (by kernel_rfl) (by kernel_rfl) (fun _ _ _ _ h => h) (by rfl) ?_; apply Exists.intro; refine ⟨fun w1 h1 K hK => ?_, ?_⟩; · ( go_big_quiet_op; first | exact hK | fail))
                          (refine wpAnyP_one (i := 7) (by kernel_rfl) rfl (by rfl) (fun wa hwa K hK => ?_))
                          have hA1 := hP0 _ _ hC0 hwa
                          have hrs := (HRS.out ⟨xlo, xhi⟩)
                          have hsz : n * 2 ≤ cur2.size := by have := hrs.1; rw [setA_size] at this; exact this
                          have hcn := HCG.out.2.1
                          refine wp_store_at (HX.out.below hA1) rfl rfl rfl (by simp; omega) (by kernel_rfl) (by simp [Value.oneCell']) (fun wb zs ho => ?_)
                          dsimp only [Act.put]
                          have hLb := (HL.out.trans (hA1.mono HL.out.size)).trans (ho.below HG.out)
                          refine hK _ _ zs.lt ?_
                          clear hK K
                          refine wpAnyP_done (by kernel_rfl) (fun wd hwd => ?_) _
                          have HX2 := Lib.hid (show Box g (setA cur2 (c * 2) [.int .i64 xlo, .int .i64 xhi]) 41 wd from zs.below hwd)
                          have HL2 := Lib.hid (hLb.trans (hwd.mono hLb.size))
                          have H132 := Lib.hid ((ho.box (H13.out.below hA1) (Ne.symm HN13.out)).below hwd)
                          have H162 := Lib.hid ((ho.box (H16.out.below hA1) (Ne.symm HN16.out)).below hwd)
                          have HP2 := Lib.hid ((ints_only (HP.out.mono hA1) ho HNP.out).mono hwd)
                          have HR2 := Lib.hid hrs
                          clear hP0 hP1 hP01 hC0 hwa hA1 zs ho hLb hwd hrs hsz hcn HX HL H13 H16 HP HPF HRC HRZ HRS
                          have f0 := H162.out.cell 0 (v := .int .i64 xlo) rfl
                          have f1 := H162.out.cell 1 (v := .int .i64 xhi) rfl
                          have f2 := H162.out.lt
                          by_cases hle : xlo ≤ xhi
                          · have HK2 := Lib.hid (HSTB.out hle)
                            have hd : decide (xhi < xlo) = false := decide_eq_false (by omega)
                            clear HSTB HBAD
                            go_wp2_with fail
                            go_roundw
                            case rel => exact ⟨k + 1, _, _, st3, by omega, by go_num, by rw [HST3.out], HX2, HR2, HK2, H132, HP2, HL2⟩
                            case measure => simp [intOf]; omega
                          · have HBD := Lib.hid (HBAD.out (by omega))
                            have hd : decide (xhi < xlo) = true := decide_eq_true (by omega)
                            clear HSTB HBAD
                            go_wp2_with fail
                            refine bodyPost_ret (v := .tuple #[.slice none 0 0, .bool false]) (by simp [results, Try.results39, go_sem]) rfl ⟨HL2.out, .inl ⟨rfl, HBD.out⟩⟩
                      · have hkm : M = k := by omega
                        as_aux_lemma =>
                          subst hkm
                          have k0 := H13.out.cell 0 (v := .int .i64 nlo) rfl
                          have k1 := H13.out.cell 1 (v := .int .i64 nhi) rfl
                          have k2 := H13.out.lt
                          by_cases hle : nlo ≤ nhi
                          · have HV2 := Lib.hid (HKV.out.fin (by have := HMM.out; omega) hle)
                            have hd : decide (nhi < nlo) = false := decide_eq_false (by omega)
                            clear HKV
                            go_wp2_with fail
                            go_roundw
                            case rel => exact ⟨zz + 1, s2, cur2, st2, by omega, by go_num, rfl, HX, HR, HV2, HL⟩
                            case measure => simp [intOf]; omega
                          · have HBD := Lib.hid (HKV.out.bad2 HZL.out HU.out (by simp only; omega))
                            have hd : decide (nhi < nlo) = true := decide_eq_true (by omega)
                            clear HKV
                            go_wp2_with fail
                            refine bodyPost_ret (v := .tuple #[.slice none 0 0, .bool false]) (by simp [results, Try.results39, go_sem]) rfl ⟨HL.out, .inl ⟨rfl, HBD.out⟩⟩
                  · skip
                    refine wp_region_aft (by kernel_rfl) (by kernel_rfl) ?_
                    repeat (go_big_quiet_step (fail))
                    refine wpQuiet_nil ?_
                    intro WA
                    obtain ⟨wy, hwy⟩ : ∃ X, X = WA.val := ⟨_, rfl⟩
                    have hby := WA.below
                    rw [← hwy] at hby ⊢
                    clear hwy WA
                    clear q1 q2 q3 q4 q5 q6 hcm HSF
                    rw [Bool.true_and] at HKV
                    obtain ⟨st1, hst1⟩ : ∃ x, x = dq := ⟨_, rfl⟩
                    rw [← hst1] at HKV
                    have HST1 := Lib.hid hst1
                    clear hst1
                    replace HL := Lib.hid (HL.out.trans (hby.mono HL.out.size))
                    replace HX := Lib.hid (HX.out.below hby)
                    replace HP := Lib.hid (HP.out.mono hby)
                    replace H13 := Lib.hid (H13.out.below hby)
                    clear hby W5
                    have HR2 := Lib.hid (HR1.out ⟨nlo, nhi⟩)
                    clear HR1 HR HSC
                    have hix : ∀ W : World, (Instr.indexAt 24 (.slice (some ⟨g, 0, none⟩) n cR) (.int .i64 (zz : Nat))).run Try.prog W = .ok (.pointer (some ⟨g, zz * 2, none⟩)) W := fun W => ix24 HZL.out W
                    have k0 := H13.out.cell 0 (v := .int .i64 nlo) rfl
                    have k1 := H13.out.cell 1 (v := .int .i64 nhi) rfl
                    have k2 := H13.out.lt
                    have hcz := HR0.out
                    have x0 := HX.out.cell (zz * 2) hcz.1
                    have x1 := HX.out.cell (zz * 2 + 1) hcz.2
                    have x2 := HX.out.frozen (zz * 2)
                    have x3 := HX.out.frozen (zz * 2 + 1)
                    have x4 := HX.out.lt
                    clear hcz
                    go_upto_region 18 with fail
                    have ho := ((Only.refl g wy).setCell (zz * 2) (.int .i64 nlo)).setCell (zz * 2 + 1) (.int .i64 nhi)
                    have HX2 := Lib.hid (show Box g (setA cur (zz * 2) [.int .i64 nlo, .int .i64 nhi]) 41 _ from (HX.out.set (zz * 2) (.int .i64 nlo)).set (zz * 2 + 1) (.int .i64 nhi))
                    replace HL := Lib.hid (HL.out.trans (ho.below HG.out))
                    replace H13 := Lib.hid (ho.box H13.out (Ne.symm HN13.out))
                    have HPX := Lib.hid (ints_only HP.out ho HNP.out)
                    clear HP HX k0 k1 k2 x0 x1 x2 x3 x4 hix ho
                    obtain ⟨W6, hW6⟩ : ∃ X, X = (wy.setCell ⟨g, zz * 2, none⟩ (.int .i64 nlo)).setCell ⟨g, zz * 2 + 1, none⟩ (.int .i64 nhi) := ⟨_, rfl⟩
                    rw [← hW6] at HX2 HL H13 HPX ⊢
                    clear hW6
                    obtain ⟨cur6, hc6⟩ : ∃ c, c = setA cur (zz * 2) [.int .i64 nlo, .int .i64 nhi] := ⟨_, rfl⟩
                    simp only at HR2
                    rw [← hc6] at HX2 HR2
                    clear hc6
                    go_wp2_with fail
                    go_loopw [10, 14] (fun v10 v14 wr => ∃ (k : Nat) (s : Nat → Spn) (cur : Array Value) (st : Bool), k ≤ M ∧ v14 = .int .i64 k ∧ v10 = .bool st ∧ Hid (Box g cur 41 wr) ∧ Hid (SRow n s cur) ∧ Hid (KV z n q s0 zz ⟨nlo, nhi⟩ k s st) ∧ Hid (Box g13 #[.int .i64 nlo, .int .i64 nhi] 41 wr) ∧ Hid (IntsAt wr (some ⟨bP, oP9, none⟩) M (fun j => (((kidsTo z zz n).getD j 0 : Nat) : Int))) ∧ Hid (Below w.heap.size w wr)) (fun _ v14 _ => M - (intOf v14).toNat)
                    case atStart => exact ⟨0, _, cur6, st1, Nat.zero_le _, rfl, by rw [HST1.out], HX2, HR2, HKV, H13, HPX, HL⟩
                    case round =>
                      clear HX2 HR2 HKV H13 HPX HL
                      obtain ⟨k, s2, cur2, st2, hkM, rfl, rfl, HX, HR, HKV, H13, HP, HL⟩ := hrel
                      by_cases hkl : k < M
                      · as_aux_lemma =>
                        have k0 : (0 : Int) ≤ (k : Int) := by omega
                        have k1 : (k : Int) < (M : Int) := by omega
                        have hkk : k < (kidsTo z zz n).length := by have := HMM.out; omega
                        have HMEM := Lib.hid (getD_mem hkk)
                        have HKB := Lib.hid (kids_bd HZ.out HOK.out hn HU.out HKV.out.own HKV.out.ne)
                        have HBN := Lib.hid HKV.out.bnd
                        obtain ⟨c, hc⟩ : ∃ c, c = (kidsTo z zz n).getD k 0 := ⟨_, rfl⟩
                        rw [← hc] at HMEM
                        have HCK := Lib.hid hc
                        have HCG := Lib.hid (kid_gt HZ.out HMEM.out)
                        have c0 : (0 : Int) ≤ (c : Int) := by omega
                        have c1 : (c : Int) < (n : Int) := by have := HCG.out.2.1; omega
                        have HPF := Lib.hid (show ∀ V, Below wr.heap.size wr V → bP < V.heap.size ∧ V.cell? ⟨bP, oP9 + k, none⟩ = some (.int .i64 (c : Nat)) from fun V hV => by
                          obtain ⟨b9, o9, e9, h1, h2⟩ := (HP.out.mono hV) k hkl
                          cases e9
                          rw [hc]
                          exact ⟨h1, h2⟩)
                        have HDS := Lib.hid (fun (V : World) (hV : Below wr.heap.size wr V) => dsum_any (some ⟨g, 0, none⟩) (some ⟨bP, oP9, none⟩) n cR cP s2 (kidsTo z zz n) (c : Int) V (by have := HKL.out; have := HMM.out; omega) (HR.out.at_ (HX.out.below hV)) (by rw [← HMM.out]; exact HP.out.mono hV) (fun c hc => (kid_gt HZ.out hc).2.1) (fun c hc => by have := HKB.out.1 c hc; omega))
                        rw [← HMM.out] at HDS
                        simp only [sumB_one (kids_nodup z zz n) HMEM.out] at HDS
                        have HNXT := Lib.hid (show nextS z n zz ⟨nlo, nhi⟩ s2 c = cutS (s2 c) (nlo - (sumL (fun c => (s2 c).hi) (kidsTo z zz n) - (s2 c).hi)) (nhi - (sumL (fun c => (s2 c).lo) (kidsTo z zz n) - (s2 c).lo)) from rfl)
                        have HSTB := Lib.hid (fun h => HKV.out.stepB (c := c) HZ.out HZL.out HU.out hkk hc h)
                        have HBAD := Lib.hid (fun h => HKV.out.bad (c := c) HZ.out HZL.out HU.out HMEM.out h)
                        have HRC := Lib.hid (HR.out.2 c HCG.out.2.1)
                        have HRZ := Lib.hid (show cur2[zz * 2]? = some (.int .i64 nlo) ∧ cur2[zz * 2 + 1]? = some (.int .i64 nhi) by
                          have h1 := HR.out.2 zz HZL.out
                          rw [HKV.out.at_] at h1
                          exact h1)
                        have HRS := Lib.hid (fun x => HR.out.set HCG.out.2.1 x)
                        have HKC := Lib.hid (HKB.out.1 c HMEM.out)
                        have HKS := Lib.hid HKB.out.2
                        obtain ⟨sl, hsl⟩ : ∃ x, x = sumL (fun c => (s2 c).lo) (kidsTo z zz n) := ⟨_, rfl⟩
                        obtain ⟨sh, hsh⟩ : ∃ x, x = sumL (fun c => (s2 c).hi) (kidsTo z zz n) := ⟨_, rfl⟩
                        simp only [← hsl, ← hsh] at HDS
                        rw [← hsl, ← hsh] at HNXT HKS
                        clear hsl hsh HKB hc HKV HR
                        obtain ⟨nx, hnx⟩ : ∃ x, x = nextS z n zz ⟨nlo, nhi⟩ s2 c := ⟨_, rfl⟩
                        rw [← hnx] at HNXT
                        simp only [← hnx] at HSTB HBAD
                        clear hnx
                        obtain ⟨sc, hsc⟩ : ∃ x, x = s2 c := ⟨_, rfl⟩
                        rw [← hsc] at HNXT HRC HKC
                        simp only [← hsc] at HSTB HDS
                        clear hsc
                        obtain ⟨xlo, xhi⟩ := nx
                        obtain ⟨slo, shi⟩ := sc
                        simp only at HNXT HRC HKC HBAD HSTB HDS HBN
                        obtain ⟨⟨y1, y2⟩, y3, y4⟩ := HKC.out
                        obtain ⟨⟨y5, y6⟩, y7, y8⟩ := HKS.out
                        obtain ⟨b1, b2, b3, b4⟩ := HBN.out
                        obtain ⟨pB, pC⟩ := HPF.out wr (Below.refl _ _)
                        go_wp2_with fail
                        refine (HDS.out _ (Below.refl _ _)).mono ?_
                        rintro e w7 ⟨rfl, hb⟩
                        clear pB pC
                        go_upto_region 22 with fail
                        have H15 := Lib.hid (Box.new (g := w7.heap.size) #[.int .i64 (sl - slo), .int .i64 (sh - shi)] 41 w7 rfl)
                        have hb2 := hb.alloc hb.size (.cells #[.int .i64 (sl - slo), .int .i64 (sh - shi)] 41)
                        obtain ⟨g15, hG⟩ : ∃ G, G = w7.heap.size := ⟨_, rfl⟩
                        obtain ⟨W8, hW8⟩ : ∃ X, X = w7.alloc (.cells #[.int .i64 (sl - slo), .int .i64 (sh - shi)] 41) := ⟨_, rfl⟩
                        rw [← hW8] at H15 hb2 ⊢
                        rw [← hG] at H15 ⊢
                        replace HPF := Lib.hid (show ∀ V, Below W8.heap.size W8 V → bP < V.heap.size ∧ V.cell? ⟨bP, oP9 + k, none⟩ = some (.int .i64 (c : Nat)) from fun V hV => HPF.out V (hb2.trans (hV.mono hb2.size)))
                        replace HX := Lib.hid (HX.out.below hb2)
                        replace H13 := Lib.hid (H13.out.below hb2)
                        replace HP := Lib.hid (HP.out.mono hb2)
                        replace HL := Lib.hid (HL.out.trans (hb2.mono HL.out.size))
                        clear hb hb2 hW8 hG w7 HDS wr
                        have HCT := Lib.hid (fun (V : World) => dcut_any ⟨slo, shi⟩ ⟨nlo - (sh - shi), nhi - (sl - slo)⟩ V)
                        simp only [← HNXT.out] at HCT
                        clear HNXT
                        have hCC : ∀ A B : World, Below W8.heap.size W8 A → Below A.heap.size A B → Below W8.heap.size W8 B := fun A B h1 h2 => h1.trans (h2.mono h1.size)
                        have hC0 : Below W8.heap.size W8 W8.drew := (Below.refl _ _).drew
                        refine wp_region_garb (Below W8.heap.size W8) (by kernel_rfl) ?_
                        (refine wpAnyG_take (i := 0) hCC hC0 rfl (by kernel_rfl) (by kernel_rfl) (by kernel_rfl) (fun _ _ _ _ h => h) (by rfl) ?_; apply Exists.intro; refine ⟨fun w1 h1 K hK => ?_, ?_⟩; · ( go_big_quiet_op; first | exact hK | fail))
                        (refine wpAnyG_take (i := 1) hCC hC0 rfl (by kernel_rfl) (by kernel_rfl) (by kernel_rfl) (fun _ _ _ _ h => h) (by rfl) ?_; apply Exists.intro; refine ⟨fun w1 h1 K hK => ?_, ?_⟩; · ( go_big_quiet_op; first | exact hK | fail))
                        (refine wpAnyG_take (i := 2) hCC hC0 rfl (by kernel_rfl) (by kernel_rfl) (by kernel_rfl) (fun _ _ _ _ h => h) (by rfl) ?_; apply Exists.intro; refine ⟨fun w1 h1 K hK => ?_, ?_⟩; · ( go_big_quiet_op; first | exact hK | fail))
                        (refine wpAnyG_take (i := 3) hCC hC0 rfl (by kernel_rfl) (by kernel_rfl) (by kernel_rfl) (fun _ _ _ _ h => h) (by rfl) ?_; apply Exists.intro; refine ⟨fun w1 h1 K hK => ?_, ?_⟩; · ( go_big_quiet_op; first | exact hK | fail))
                        (refine wpAnyG_take (i := 4) hCC hC0 rfl (by kernel_rfl) (by kernel_rfl) (by kernel_rfl) (fun _ _ _ _ h => h) (by rfl) ?_; apply Exists.intro; refine ⟨fun w1 h1 K hK => ?_, ?_⟩; · (have q7 : ∀ V : Aft w1, V.val.cell? ⟨bP, oP9 + k, none⟩ = some (.int .i64 (c : Nat)) := fun V => (HPF.out V.val (hCC _ _ h1 V.below)).2; have q8 : ∀ V : Aft w1, bP < V.val.heap.size := fun V => (HPF.out V.val (hCC _ _ h1 V.below)).1; go_big_quiet_op; first | exact hK | fail))
                        (refine wpAnyG_take (i := 5) hCC hC0 rfl (by kernel_rfl) (by kernel_rfl) (by kernel_rfl) (fun _ _ _ _ h => h) (by rfl) ?_; apply Exists.intro; refine ⟨fun w1 h1 K hK => ?_, ?_⟩; · ( go_big_quiet_op; first | exact hK | fail))
                        (refine wpAnyG_take (i := 6) hCC hC0 rfl (by kernel_rfl) (by kernel_rfl) (by kernel_rfl) (fun _ _ _ _ h => h) (by rfl) ?_; apply Exists.intro; refine ⟨fun w1 h1 K hK => ?_, ?_⟩; · (have q1 : ∀ V : Aft w1, V.val.cell? ⟨g, c * 2, none⟩ = some (.int .i64 slo) := fun V => (HX.out.below (hCC _ _ h1 V.below)).cell _ HRC.out.1; have q2 : ∀ V : Aft w1, V.val.cell? ⟨g, c * 2 + 1, none⟩ = some (.int .i64 shi) := fun V => (HX.out.below (hCC _ _ h1 V.below)).cell _ HRC.out.2; have q3 : ∀ V : Aft w1, g < V.val.heap.size := fun V => (HX.out.below (hCC _ _ h1 V.below)).lt; go_big_quiet_op; first | exact hK | fail))
                        (refine wpAnyG_take (i := 7) hCC hC0 rfl (by kernel_rfl) (by kernel_rfl) (by kernel_rfl) (fun _ _ _ _ h => h) (by rfl) ?_; apply Exists.intro; refine ⟨fun w1 h1 K hK => ?_, ?_⟩; · ( go_big_quiet_op; first | exact hK | fail))
                        (refine wpAnyG_take (i := 8) hCC hC0 rfl (by kernel_rfl) (by kernel_rfl) (by kernel_rfl) (fun _ _ _ _ h => h) (by rfl) ?_; apply Exists.intro; refine ⟨fun w1 h1 K hK => ?_, ?_⟩; · ( go_big_quiet_op; first | exact hK | fail))
                        (refine wpAnyG_take (i := 9) hCC hC0 rfl (by kernel_rfl) (by kernel_rfl) (by kernel_rfl) (fun _ _ _ _ h => h) (by rfl) ?_; apply Exists.intro; refine ⟨fun w1 h1 K hK => ?_, ?_⟩; · ( go_big_quiet_op; first | exact hK | fail))
                        (refine wpAnyG_take (i := 10) hCC hC0 rfl (by kernel_rfl) (by kernel_rfl) (by kernel_rfl) (fun _ _ _ _ h => h) (by rfl) ?_; apply Exists.intro; refine ⟨fun w1 h1 K hK => ?_, ?_⟩; · (have q3 : ∀ V : Aft w1, g < V.val.heap.size := fun V => (HX.out.below (hCC _ _ h1 V.below)).lt; go_big_quiet_op; first | exact hK | fail))
                        (refine wpAnyG_take (i := 11) hCC hC0 rfl (by kernel_rfl) (by kernel_rfl) (by kernel_rfl) (fun _ _ _ _ h => h) (by rfl) ?_; apply Exists.intro; refine ⟨fun w1 h1 K hK => ?_, ?_⟩; · (have q1 : ∀ V : Aft w1, V.val.cell? ⟨g, zz * 2, none⟩ = some (.int .i64 nlo) := fun V => (HX.out.below (hCC _ _ h1 V.below)).cell _ HRZ.out.1; go_big_quiet_op; first | exact hK | fail))
                        (refine wpAnyG_take (i := 12) hCC hC0 rfl (by kernel_rfl) (by kernel_rfl) (by kernel_rfl) (fun _ _ _ _ h => h) (by rfl) ?_; apply Exists.intro; refine ⟨fun w1 h1 K hK => ?_, ?_⟩; · (have q6 : ∀ V : Aft w1, g15 < V.val.heap.size := fun V => (H15.out.below (hCC _ _ h1 V.below)).lt; go_big_quiet_op; first | exact hK | fail))
                        (refine wpAnyG_take (i := 13) hCC hC0 rfl (by kernel_rfl) (by kernel_rfl) (by kernel_rfl) (fun _ _ _ _ h => h) (by rfl) ?_; apply Exists.intro; refine ⟨fun w1 h1 K hK => ?_, ?_⟩; · (have q6 : ∀ V : Aft w1, V.val.cell? ⟨g15, 1, none⟩ = some (.int .i64 (sh - shi)) := fun V => (H15.out.below (hCC _ _ h1 V.below)).cell 1 rfl; go_big_quiet_op; first | exact hK | fail))
                        (refine wpAnyG_take (i := 14) hCC hC0 rfl (by kernel_rfl) (by kernel_rfl) (by kernel_rfl) (fun _ _ _ _ h => h) (by rfl) ?_; apply Exists.intro; refine ⟨fun w1 h1 K hK => ?_, ?_⟩; · ( go_big_quiet_op; first | exact hK | fail))
                        (refine wpAnyG_take (i := 15) hCC hC0 rfl (by kernel_rfl) (by kernel_rfl) (by kernel_rfl) (fun _ _ _ _ h => h) (by rfl) ?_; apply Exists.intro; refine ⟨fun w1 h1 K hK => ?_, ?_⟩; · ( go_big_quiet_op; first | exact hK | fail))
                        (refine wpAnyG_take (i := 16) hCC hC0 rfl (by kernel_rfl) (by kernel_rfl) (by kernel_rfl) (fun _ _ _ _ h => h) (by rfl) ?_; apply Exists.intro; refine ⟨fun w1 h1 K hK => ?_, ?_⟩; · ( go_big_quiet_op; first | exact hK | fail))
                        (refine wpAnyG_take (i := 17) hCC hC0 rfl (by kernel_rfl) (by kernel_rfl) (by kernel_rfl) (fun _ _ _ _ h => h) (by rfl) ?_; apply Exists.intro; refine ⟨fun w1 h1 K hK => ?_, ?_⟩; · ( go_big_quiet_op; first | exact hK | fail))
                        (refine wpAnyG_take (i := 18) hCC hC0 rfl (by kernel_rfl) (by kernel_rfl) (by kernel_rfl) (fun _ _ _ _ h => h) (by rfl) ?_; apply Exists.intro; refine ⟨fun w1 h1 K hK => ?_, ?_⟩; · (have q3 : ∀ V : Aft w1, g < V.val.heap.size := fun V => (HX.out.below (hCC _ _ h1 V.below)).lt; go_big_quiet_op; first | exact hK | fail))
                        (refine wpAnyG_take (i := 19) hCC hC0 rfl (by kernel_rfl) (by kernel_rfl) (by kernel_rfl) (fun _ _ _ _ h => h) (by rfl) ?_; apply Exists.intro; refine ⟨fun w1 h1 K hK => ?_, ?_⟩; · (have q1 : ∀ V : Aft w1, V.val.cell? ⟨g, zz * 2 + 1, none⟩ = some (.int .i64 nhi) := fun V => (HX.out.below (hCC _ _ h1 V.below)).cell _ HRZ.out.2; go_big_quiet_op; first | exact hK | fail))
                        (refine wpAnyG_take (i := 20) hCC hC0 rfl (by kernel_rfl) (by kernel_rfl) (by kernel_rfl) (fun _ _ _ _ h => h) (by rfl) ?_; apply Exists.intro; refine ⟨fun w1 h1 K hK => ?_, ?_⟩; · (have q6 : ∀ V : Aft w1, g15 < V.val.heap.size := fun V => (H15.out.below (hCC _ _ h1 V.below)).lt; go_big_quiet_op; first | exact hK | fail))
                        (refine wpAnyG_take (i := 21) hCC hC0 rfl (by kernel_rfl) (by kernel_rfl) (by kernel_rfl) (fun _ _ _ _ h => h) (by rfl) ?_; apply Exists.intro; refine ⟨fun w1 h1 K hK => ?_, ?_⟩; · (have q6 : ∀ V : Aft w1, V.val.cell? ⟨g15, 0, none⟩ = some (.int .i64 (sl - slo)) := fun V => (H15.out.below (hCC _ _ h1 V.below)).cell 0 rfl; go_big_quiet_op; first | exact hK | fail))
                        (refine wpAnyG_take (i := 22) hCC hC0 rfl (by kernel_rfl) (by kernel_rfl) (by kernel_rfl) (fun _ _ _ _ h => h) (by rfl) ?_; apply Exists.intro; refine ⟨fun w1 h1 K hK => ?_, ?_⟩; · ( go_big_quiet_op; first | exact hK | fail))
                        (refine wpAnyG_take (i := 23) hCC hC0 rfl (by kernel_rfl) (by kernel_rfl) (by kernel_rfl) (fun _ _ _ _ h => h) (by rfl) ?_; apply Exists.intro; refine ⟨fun w1 h1 K hK => ?_, ?_⟩; · ( go_big_quiet_op; first | exact hK | fail))
                        (refine wpAnyG_take (i := 24) hCC hC0 rfl (by kernel_rfl) (by kernel_rfl) (by kernel_rfl) (fun _ _ _ _ h => h) (by rfl) ?_; apply Exists.intro; refine ⟨fun w1 h1 K hK => ?_, ?_⟩; · ( go_big_quiet_op; first | exact hK | exact ⟨_, fun V => aft_call (HCT.out V.val), hK⟩))
                        (refine wpAnyG_one (i := 25) (by kernel_rfl) rfl (by rfl) (fun wa hwa K hK => ?_))
                        go_simp
                        refine hK _ _ ((hCC _ _ hC0 hwa).alloc (by have := hC0.size; have := hwa.size; omega) _) ?_
                        clear hK K
                        have s9 := Box.new (g := wa.heap.size) #[.int .i64 0, .int .i64 0] 41 wa rfl
                        have hC1 := (hCC _ _ hC0 hwa).alloc (by have := hC0.size; have := hwa.size; omega) (.cells #[.int .i64 0, .int .i64 0] 41)
                        have hg9 : W8.heap.size ≤ wa.heap.size := Nat.le_trans hC0.size hwa.size
                        clear hwa
                        obtain ⟨g16, hG⟩ : ∃ G, G = wa.heap.size := ⟨_, rfl⟩
                        obtain ⟨wA, hWA⟩ : ∃ X, X = wa.alloc (.cells #[.int .i64 0, .int .i64 0] 41) := ⟨_, rfl⟩
                        rw [← hG] at s9 hg9 ⊢
                        rw [← hWA] at s9 hC1 ⊢
                        clear hG hWA
                        (refine wpAnyG_one (i := 26) (by kernel_rfl) rfl (by rfl) (fun wb hwb K hK => ?_))
                        refine wp_store_box (s9.below hwb) rfl rfl rfl rfl (by kernel_rfl) (by simp [Value.oneCell']) (fun wc s8 ho => ?_); dsimp only [Act.put]
                        refine hK _ _ ((hCC _ _ hC1 hwb).trans (ho.below hg9)) ?_
                        clear hK K
                        have hC2 := (hCC _ _ hC1 hwb).trans (ho.below hg9)
                        refine wpAnyG_done (by kernel_rfl) (fun wz hwz => ?_) _
                        have H16 := Lib.hid (s8.below hwz)
                        have hby := hCC _ _ hC2 hwz
                        have HN16 := Lib.hid (show g ≠ g16 by have := HX.out.lt; omega)
                        replace HL := Lib.hid (HL.out.trans (hby.mono HL.out.size))
                        replace HX := Lib.hid (HX.out.below hby)
                        replace HP := Lib.hid (HP.out.mono hby)
                        replace H13 := Lib.hid (H13.out.below hby)
                        replace HPF := Lib.hid (show ∀ V, Below wz.heap.size wz V → bP < V.heap.size ∧ V.cell? ⟨bP, oP9 + k, none⟩ = some (.int .i64 (c : Nat)) from fun V hV => HPF.out V (hby.trans (hV.mono hby.size)))
                        clear s9 hC1 ho hwb hC0 hC2 hwz hCC s8 hg9 hby HCT H15 W8
                        have HCMP := Lib.hid (fun V : World => eql41 ⟨xlo, xhi⟩ ⟨slo, shi⟩ V)
                        obtain ⟨dq, hdq⟩ : ∃ v, v = decide ((⟨xlo, xhi⟩ : Spn) = ⟨slo, shi⟩) := ⟨_, rfl⟩
                        simp only [← hdq] at HCMP HSTB
                        clear hdq
                        have hcm : ∀ V : World, (binOp .eql 41 (.agg #[.int .i64 xlo, .int .i64 xhi]) (.agg #[.int .i64 slo, .int .i64 shi])).run Try.prog V = .ok (.bool dq) V := fun V => HCMP.out V
                        clear HCMP
                        go_upto_region 23 with fail
                        have q1 : ∀ V : Aft wz, V.val.cell? ⟨g, c * 2, none⟩ = some (.int .i64 slo) := fun V => (HX.out.below V.below).cell _ HRC.out.1
                        have q2 : ∀ V : Aft wz, V.val.cell? ⟨g, c * 2 + 1, none⟩ = some (.int .i64 shi) := fun V => (HX.out.below V.below).cell _ HRC.out.2
                        have q3 : ∀ V : Aft wz, g < V.val.heap.size := fun V => (HX.out.below V.below).lt
                        have q4 : ∀ V : Aft wz, V.val.cell? ⟨g16, 0, none⟩ = some (.int .i64 xlo) := fun V => (H16.out.below V.below).cell 0 rfl
                        have q5 : ∀ V : Aft wz, V.val.cell? ⟨g16, 1, none⟩ = some (.int .i64 xhi) := fun V => (H16.out.below V.below).cell 1 rfl
                        have q6 : ∀ V : Aft wz, g16 < V.val.heap.size := fun V => (H16.out.below V.below).lt
                        have q7 : ∀ V : Aft wz, V.val.cell? ⟨bP, oP9 + k, none⟩ = some (.int .i64 (c : Nat)) := fun V => (HPF.out V.val V.below).2
                        have q8 : ∀ V : Aft wz, bP < V.val.heap.size := fun V => (HPF.out V.val V.below).1
                        cases st2
                        · skip
                          refine wp_region_aft (by kernel_rfl) (by kernel_rfl) ?_
                          repeat (go_big_quiet_step (fail))
                          refine wpQuiet_nil ?_
                          intro WA
                          obtain ⟨wy, hwy⟩ : ∃ X, X = WA.val := ⟨_, rfl⟩
                          have hby := WA.below
                          rw [← hwy] at hby ⊢
                          clear hwy WA
                          clear q1 q2 q3 q4 q5 q6 q7 q8 hcm
                          obtain ⟨st3, hst3⟩ : ∃ x, x = (false && dq) := ⟨_, rfl⟩
                          simp only [← hst3] at HSTB
                          have HST3 := Lib.hid (show false = st3 by rw [hst3]; rfl)
                          clear hst3
                          replace HL := Lib.hid (HL.out.trans (hby.mono HL.out.size))
                          replace HX := Lib.hid (HX.out.below hby)
                          replace HP := Lib.hid (HP.out.mono hby)
                          replace H13 := Lib.hid (H13.out.below hby)
                          replace H16 := Lib.hid (H16.out.below hby)
                          replace HPF := Lib.hid (show ∀ V, Below wy.heap.size wy V → bP < V.heap.size ∧ V.cell? ⟨bP, oP9 + k, none⟩ = some (.int .i64 (c : Nat)) from fun V hV => HPF.out V (hby.trans (hV.mono hby.size)))
                          clear hby wz
                          go_upto_region 24 with fail
                          have hP0 : ∀ A B : World, Below wy.heap.size wy A → Below A.heap.size A B → Below wy.heap.size wy B := fun A B h1 h2 => h1.trans (h2.mono h1.size)
                          have hP1 : ∀ A B : World, g < A.heap.size → Below A.heap.size A B → g < B.heap.size := fun _ _ h1 h2 => Nat.lt_of_lt_of_le h1 h2.size
                          have hP01 : ∀ A : World, Below wy.heap.size wy A → g < A.heap.size := fun _ h1 => Nat.lt_of_lt_of_le HX.out.lt h1.size
                          have hC0 : Below wy.heap.size wy wy.drew := (Below.refl _ _).drew
                          refine wp_region_phase 7 (fun A => Below wy.heap.size wy A) (fun A => g < A.heap.size) (by kernel_rfl) ?_
                          (refine wpAnyP_take0 (i := 0) hP0 hP1 hC0 (by decide) (by rfl) rfl (by kernel_rfl) rfl (by kernel_rfl) (by kernel_rfl) (by kernel_rfl) (fun _ _ _ _ h => h) (by rfl) ?_; apply Exists.intro; refine ⟨fun w1 h1 K hK => ?_, ?_⟩; · ( go_big_quiet_op; first | exact hK | fail))
                          (refine wpAnyP_take0 (i := 1) hP0 hP1 hC0 (by decide) (by rfl) rfl (by kernel_rfl) rfl (by kernel_rfl) (by kernel_rfl) (by kernel_rfl) (fun _ _ _ _ h => h) (by rfl) ?_; apply Exists.intro; refine ⟨fun w1 h1 K hK => ?_, ?_⟩; · ( go_big_quiet_op; first | exact hK | fail))
                          (refine wpAnyP_take0 (i := 2) hP0 hP1 hC0 (by decide) (by rfl) rfl (by kernel_rfl) rfl (by kernel_rfl) (by kernel_rfl) (by kernel_rfl) (fun _ _ _ _ h => h) (by rfl) ?_; apply Exists.intro; refine ⟨fun w1 h1 K hK => ?_, ?_⟩; · ( go_big_quiet_op; first | exact hK | fail))
                          (refine wpAnyP_take0 (i := 3) hP0 hP1 hC0 (by decide) (by rfl) rfl (by kernel_rfl) rfl (by kernel_rfl) (by kernel_rfl) (by kernel_rfl) (fun _ _ _ _ h => h) (by rfl) ?_; apply Exists.intro; refine ⟨fun w1 h1 K hK => ?_, ?_⟩; · ( go_big_quiet_op; first | exact hK | fail))
                          (refine wpAnyP_take0 (i := 4) hP0 hP1 hC0 (by decide) (by rfl) rfl (by kernel_rfl) rfl (by kernel_rfl) (by kernel_rfl) (by kernel_rfl) (fun _ _ _ _ h => h) (by rfl) ?_; apply Exists.intro; refine ⟨fun w1 h1 K hK => ?_, ?_⟩; · (have q7 : ∀ V : Aft w1, V.val.cell? ⟨bP, oP9 + k, none⟩ = some (.int .i64 (c : Nat)) := fun V => (HPF.out V.val (hP0 _ _ h1 V.below)).2; have q8 : ∀ V : Aft w1, bP < V.val.heap.size := fun V => (HPF.out V.val (hP0 _ _ h1 V.below)).1; go_big_quiet_op; first | exact hK | fail))
                          (refine wpAnyP_take0 (i := 5) hP0 hP1 hC0 (by decide) (by rfl) rfl (by kernel_rfl) rfl (by kernel_rfl) (by kernel_rfl) (by kernel_rfl) (fun _ _ _ _ h => h) (by rfl) ?_; apply Exists.intro; refine ⟨fun w1 h1 K hK => ?_, ?_⟩; · (have q4 : ∀ V : Aft w1, V.val.cell? ⟨g16, 0, none⟩ = some (.int .i64 xlo) := fun V => (H16.out.below (hP0 _ _ h1 V.below)).cell 0 rfl; have q5 : ∀ V : Aft w1, V.val.cell? ⟨g16, 1, none⟩ = some (.int .i64 xhi) := fun V => (H16.out.below (hP0 _ _ h1 V.below)).cell 1 rfl; have q6 : ∀ V : Aft w1, g16 < V.val.heap.size := fun V => (H16.out.below (hP0 _ _ h1 V.below)).lt; go_big_quiet_op; first | exact hK | fail))
                          (refine wpAnyP_take1 (i := 6) hP0 hP1 hP01 hC0 (by decide) rfl (by kernel_rfl) (by kernel_rfl) (by kernel_rfl) (fun _ _ _ _ h => h) (by rfl) ?_; apply Exists.intro; refine ⟨fun w1 h1 K hK => ?_, ?_⟩; · ( go_big_quiet_op; first | exact hK | fail))
                          (refine wpAnyP_one (i := 7) (by kernel_rfl) rfl (by rfl) (fun wa hwa K hK => ?_))
                          have hA1 := hP0 _ _ hC0 hwa
                          have hrs := (HRS.out ⟨xlo, xhi⟩)
                          have hsz : n * 2 ≤ cur2.size := by have := hrs.1; rw [setA_size] at this; exact this
                          have hcn := HCG.out.2.1
                          refine wp_store_at (HX.out.below hA1) rfl rfl rfl (by simp; omega) (by kernel_rfl) (by simp [Value.oneCell']) (fun wb zs ho => ?_)
                          dsimp only [Act.put]
                          have hLb := (HL.out.trans (hA1.mono HL.out.size)).trans (ho.below HG.out)
                          refine hK _ _ zs.lt ?_
                          clear hK K
                          refine wpAnyP_done (by kernel_rfl) (fun wd hwd => ?_) _
                          have HX2 := Lib.hid (show Box g (setA cur2 (c * 2) [.int .i64 xlo, .int .i64 xhi]) 41 wd from zs.below hwd)
                          have HL2 := Lib.hid (hLb.trans (hwd.mono hLb.size))
                          have H132 := Lib.hid ((ho.box (H13.out.below hA1) (Ne.symm HN13.out)).below hwd)
                          have H162 := Lib.hid ((ho.box (H16.out.below hA1) (Ne.symm HN16.out)).below hwd)
                          have HP2 := Lib.hid ((ints_only (HP.out.mono hA1) ho HNP.out).mono hwd)
                          have HR2 := Lib.hid hrs
                          clear hP0 hP1 hP01 hC0 hwa hA1 zs ho hLb hwd hrs hsz hcn HX HL H13 H16 HP HPF HRC HRZ HRS
                          have f0 := H162.out.cell 0 (v := .int .i64 xlo) rfl
                          have f1 := H162.out.cell 1 (v := .int .i64 xhi) rfl
                          have f2 := H162.out.lt
                          by_cases hle : xlo ≤ xhi
                          · have HK2 := Lib.hid (HSTB.out hle)
                            have hd : decide (xhi < xlo) = false := decide_eq_false (by omega)
                            clear HSTB HBAD
                            go_wp2_with fail
                            go_roundw
                            case rel => exact ⟨k + 1, _, _, st3, by omega, by go_num, by rw [HST3.out], HX2, HR2, HK2, H132, HP2, HL2⟩
                            case measure => simp [intOf]; omega
                          · have HBD := Lib.hid (HBAD.out (by omega))
                            have hd : decide (xhi < xlo) = true := decide_eq_true (by omega)
                            clear HSTB HBAD
                            go_wp2_with fail
                            refine bodyPost_ret (v := .tuple #[.slice none 0 0, .bool false]) (by simp [results, Try.results39, go_sem]) rfl ⟨HL2.out, .inl ⟨rfl, HBD.out⟩⟩
                        · skip
                          refine wp_region_aft (by kernel_rfl) (by kernel_rfl) ?_
                          repeat (go_big_quiet_step (fail))
                          refine wpQuiet_nil ?_
                          intro WA
                          obtain ⟨wy, hwy⟩ : ∃ X, X = WA.val := ⟨_, rfl⟩
                          have hby := WA.below
                          rw [← hwy] at hby ⊢
                          clear hwy WA
                          clear q1 q2 q3 q4 q5 q6 q7 q8 hcm
                          obtain ⟨st3, hst3⟩ : ∃ x, x = (true && dq) := ⟨_, rfl⟩
                          simp only [← hst3] at HSTB
                          have HST3 := Lib.hid (show dq = st3 by rw [hst3]; rfl)
                          clear hst3
                          replace HL := Lib.hid (HL.out.trans (hby.mono HL.out.size))
                          replace HX := Lib.hid (HX.out.below hby)
                          replace HP := Lib.hid (HP.out.mono hby)
                          replace H13 := Lib.hid (H13.out.below hby)
                          replace H16 := Lib.hid (H16.out.below hby)
                          replace HPF := Lib.hid (show ∀ V, Below wy.heap.size wy V → bP < V.heap.size ∧ V.cell? ⟨bP, oP9 + k, none⟩ = some (.int .i64 (c : Nat)) from fun V hV => HPF.out V (hby.trans (hV.mono hby.size)))
                          clear hby wz
                          go_upto_region 24 with fail
                          have hP0 : ∀ A B : World, Below wy.heap.size wy A → Below A.heap.size A B → Below wy.heap.size wy B := fun A B h1 h2 => h1.trans (h2.mono h1.size)
                          have hP1 : ∀ A B : World, g < A.heap.size → Below A.heap.size A B → g < B.heap.size := fun _ _ h1 h2 => Nat.lt_of_lt_of_le h1 h2.size
                          have hP01 : ∀ A : World, Below wy.heap.size wy A → g < A.heap.size := fun _ h1 => Nat.lt_of_lt_of_le HX.out.lt h1.size
                          have hC0 : Below wy.heap.size wy wy.drew := (Below.refl _ _).drew
                          refine wp_region_phase 7 (fun A => Below wy.heap.size wy A) (fun A => g < A.heap.size) (by kernel_rfl) ?_
                          (refine wpAnyP_take0 (i := 0) hP0 hP1 hC0 (by decide) (by rfl) rfl (by kernel_rfl) rfl (by kernel_rfl) (by kernel_rfl) (by kernel_rfl) (fun _ _ _ _ h => h) (by rfl) ?_; apply Exists.intro; refine ⟨fun w1 h1 K hK => ?_, ?_⟩; · ( go_big_quiet_op; first | exact hK | fail))
                          (refine wpAnyP_take0 (i := 1) hP0 hP1 hC0 (by decide) (by rfl) rfl (by kernel_rfl) rfl (by kernel_rfl) (by kernel_rfl) (by kernel_rfl) (fun _ _ _ _ h => h) (by rfl) ?_; apply Exists.intro; refine ⟨fun w1 h1 K hK => ?_, ?_⟩; · ( go_big_quiet_op; first | exact hK | fail))
                          (refine wpAnyP_take0 (i := 2) hP0 hP1 hC0 (by decide) (by rfl) rfl (by kernel_rfl) rfl (by kernel_rfl) (by kernel_rfl) (by kernel_rfl) (fun _ _ _ _ h => h) (by rfl) ?_; apply Exists.intro; refine ⟨fun w1 h1 K hK => ?_, ?_⟩; · ( go_big_quiet_op; first | exact hK | fail))
                          (refine wpAnyP_take0 (i := 3) hP0 hP1 hC0 (by decide) (by rfl) rfl (by kernel_rfl) rfl (by kernel_rfl) (by kernel_rfl) (by kernel_rfl) (fun _ _ _ _ h => h) (by rfl) ?_; apply Exists.intro; refine ⟨fun w1 h1 K hK => ?_, ?_⟩; · ( go_big_quiet_op; first | exact hK | fail))
                          (refine wpAnyP_take0 (i := 4) hP0 hP1 hC0 (by decide) (by rfl) rfl (by kernel_rfl) rfl (by kernel_rfl) (by kernel_rfl) (by kernel_rfl) (fun _ _ _ _ h => h) (by rfl) ?_; apply Exists.intro; refine ⟨fun w1 h1 K hK => ?_, ?_⟩; · (have q7 : ∀ V : Aft w1, V.val.cell? ⟨bP, oP9 + k, none⟩ = some (.int .i64 (c : Nat)) := fun V => (HPF.out V.val (hP0 _ _ h1 V.below)).2; have q8 : ∀ V : Aft w1, bP < V.val.heap.size := fun V => (HPF.out V.val (hP0 _ _ h1 V.below)).1; go_big_quiet_op; first | exact hK | fail))
                          (refine wpAnyP_take0 (i := 5) hP0 hP1 hC0 (by decide) (by rfl) rfl (by kernel_rfl) rfl (by kernel_rfl) (by kernel_rfl) (by kernel_rfl) (fun _ _ _ _ h => h) (by rfl) ?_; apply Exists.intro; refine ⟨fun w1 h1 K hK => ?_, ?_⟩; · (have q4 : ∀ V : Aft w1, V.val.cell? ⟨g16, 0, none⟩ = some (.int .i64 xlo) := fun V => (H16.out.below (hP0 _ _ h1 V.below)).cell 0 rfl; have q5 : ∀ V : Aft w1, V.val.cell? ⟨g16, 1, none⟩ = some (.int .i64 xhi) := fun V => (H16.out.below (hP0 _ _ h1 V.below)).cell 1 rfl; have q6 : ∀ V : Aft w1, g16 < V.val.heap.size := fun V => (H16.out.below (hP0 _ _ h1 V.below)).lt; go_big_quiet_op; first | exact hK | fail))
                          (refine wpAnyP_take1 (i := 6) hP0 hP1 hP01 hC0 (by decide) rfl (by kernel_rfl) (by kernel_rfl) (by kernel_rfl) (fun _ _ _ _ h => h) (by rfl) ?_; apply Exists.intro; refine ⟨fun w1 h1 K hK => ?_, ?_⟩; · ( go_big_quiet_op; first | exact hK | fail))
                          (refine wpAnyP_one (i := 7) (by kernel_rfl) rfl (by rfl) (fun wa hwa K hK => ?_))
                          have hA1 := hP0 _ _ hC0 hwa
                          have hrs := (HRS.out ⟨xlo, xhi⟩)
                          have hsz : n * 2 ≤ cur2.size := by have := hrs.1; rw [setA_size] at this; exact this
                          have hcn := HCG.out.2.1
                          refine wp_store_at (HX.out.below hA1) rfl rfl rfl (by simp; omega) (by kernel_rfl) (by simp [Value.oneCell']) (fun wb zs ho => ?_)
                          dsimp only [Act.put]
                          have hLb := (HL.out.trans (hA1.mono HL.out.size)).trans (ho.below HG.out)
                          refine hK _ _ zs.lt ?_
                          clear hK K
                          refine wpAnyP_done (by kernel_rfl) (fun wd hwd => ?_) _
                          have HX2 := Lib.hid (show Box g (setA cur2 (c * 2) [.int .i64 xlo, .int .i64 xhi]) 41 wd from zs.below hwd)
                          have HL2 := Lib.hid (hLb.trans (hwd.mono hLb.size))
                          have H132 := Lib.hid ((ho.box (H13.out.below hA1) (Ne.symm HN13.out)).below hwd)
                          have H162 := Lib.hid ((ho.box (H16.out.below hA1) (Ne.symm HN16.out)).below hwd)
                          have HP2 := Lib.hid ((ints_only (HP.out.mono hA1) ho HNP.out).mono hwd)
                          have HR2 := Lib.hid hrs
                          clear hP0 hP1 hP01 hC0 hwa hA1 zs ho hLb hwd hrs hsz hcn HX HL H13 H16 HP HPF HRC HRZ HRS
                          have f0 := H162.out.cell 0 (v := .int .i64 xlo) rfl
                          have f1 := H162.out.cell 1 (v := .int .i64 xhi) rfl
                          have f2 := H162.out.lt
                          by_cases hle : xlo ≤ xhi
                          · have HK2 := Lib.hid (HSTB.out hle)
                            have hd : decide (xhi < xlo) = false := decide_eq_false (by omega)
                            clear HSTB HBAD
                            go_wp2_with fail
                            go_roundw
                            case rel => exact ⟨k + 1, _, _, st3, by omega, by go_num, by rw [HST3.out], HX2, HR2, HK2, H132, HP2, HL2⟩
                            case measure => simp [intOf]; omega
                          · have HBD := Lib.hid (HBAD.out (by omega))
                            have hd : decide (xhi < xlo) = true := decide_eq_true (by omega)
                            clear HSTB HBAD
                            go_wp2_with fail
                            refine bodyPost_ret (v := .tuple #[.slice none 0 0, .bool false]) (by simp [results, Try.results39, go_sem]) rfl ⟨HL2.out, .inl ⟨rfl, HBD.out⟩⟩
                      · have hkm : M = k := by omega
                        as_aux_lemma =>
                          subst hkm
                          have k0 := H13.out.cell 0 (v := .int .i64 nlo) rfl
                          have k1 := H13.out.cell 1 (v := .int .i64 nhi) rfl
                          have k2 := H13.out.lt
                          by_cases hle : nlo ≤ nhi
                          · have HV2 := Lib.hid (HKV.out.fin (by have := HMM.out; omega) hle)
                            have hd : decide (nhi < nlo) = false := decide_eq_false (by omega)
                            clear HKV
                            go_wp2_with fail
                            go_roundw
                            case rel => exact ⟨zz + 1, s2, cur2, st2, by omega, by go_num, rfl, HX, HR, HV2, HL⟩
                            case measure => simp [intOf]; omega
                          · have HBD := Lib.hid (HKV.out.bad2 HZL.out HU.out (by simp only; omega))
                            have hd : decide (nhi < nlo) = true := decide_eq_true (by omega)
                            clear HKV
                            go_wp2_with fail
                            refine bodyPost_ret (v := .tuple #[.slice none 0 0, .bool false]) (by simp [results, Try.results39, go_sem]) rfl ⟨HL.out, .inl ⟨rfl, HBD.out⟩⟩
            · have hzn : zz = n := by omega
              subst hzn
              cases st
              · have HNX := Lib.hid HV.out.next
                have HMX := Lib.hid (rd_row HX.out HR.out)
                clear HV
                go_wp2_with fail
                go_roundw
                case rel => exact ⟨s, cur, HX, HR, Lib.hid HNX.out.1, HL⟩
                case measure => rw [HMX.out, HM.out]; exact HNX.out.2
              · have HF := Lib.hid HV.out.fin
                have HFM := Lib.hid HV.out.fam
                clear HV
                go_wp2_with fail
                refine bodyPost_ret (v := .tuple #[.slice (some ⟨g, 0, none⟩) zz cR, .bool true]) (by simp [results, Try.results39, go_sem]) rfl ⟨HL.out, .inr ⟨some ⟨g, 0, none⟩, cR, s, rfl, HR.out.at_ HX.out, fun a e => (by cases e; exact HG.out), HF.out, HFM.out⟩⟩
end Go.Proofs.Ytipnaeijbbbdoaa
