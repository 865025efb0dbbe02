/- TravelTrue's truth: a round whose trips are true: the walk. -/
import Derived.Test.YtldodmfmibeoiaaDoorT2
namespace Go.Proofs.YtldodmfmibeoiaaDoor
open Go.RowKit
/-- a trip that found what is true -/
def TripOk (nb nm : Nat) (F E : Nat → Int) (s : Trp) : Prop := (0 ≤ s.b ∧ s.b < (nb : Int)) ∧ (0 ≤ s.m ∧ s.m < (nm : Int)) ∧ (F s.b.toNat + E s.m.toNat - 5 ≤ s.lo ∧ s.lo ≤ F s.b.toNat + E s.m.toNat) ∧ (F s.b.toNat + E s.m.toNat ≤ s.hi ∧ s.hi ≤ F s.b.toNat + E s.m.toNat + 5)
theorem ints_only {W W' : World} {oa : Option Addr} {g n : Nat} {f : Nat → Int} (h : IntsAt W oa n f) (ho : Only g W W') (hne : ∀ a, oa = some a → a.block ≠ g) : IntsAt W' oa n f := fun i hi => by
  obtain ⟨b, off, e, hl, c⟩ := h i hi
  have hb := hne _ e
  have k := ho.block b hb
  exact ⟨b, off, e, by rw [ho.size]; exact hl, (World.cell?_of_block (a := ⟨b, off + i, none⟩) k).trans c⟩
theorem own_lt {w : World} {base e size n : Nat} {v : Value} {xs : List Value} (h : w.ownsRow base e size v n xs) : ∀ b, v.ownBlock = some b → b < w.heap.size := fun b hb => by
  rcases h.2 with ⟨rfl, _⟩ | ⟨g', c, cur, rfl, _, hg, _⟩
  · cases hb
  · simp only [Value.ownBlock, Option.some.injEq] at hb
    subst hb
    rcases Nat.lt_or_ge g' w.heap.size with h' | h'
    · exact h'
    · rw [Array.getElem?_eq_none h'] at hg; cases hg
set_option maxRecDepth 100000 in
set_option maxHeartbeats 8000000 in
theorem truth_any (a b m d : Nat) (ka : Option Addr) (kn kc : Nat) (q : Nat → Nat) (w : World) (ha : a < 256) (hb : b < 256) (hm : m < 256) (hd : d < 256) (hkn : 0 < kn) (hkn2 : kn ≤ 9223372036854775807) (hQ : U16sAt w ka kn q) :
    Calls Tryd.prog 23 #[.int .u8 (a : Nat), .int .u8 (b : Nat), .int .u8 (m : Nat), .int .u8 (d : Nat), .slice ka kn kc] w fun e w' => (∃ (r : Rnd) (F E : Nat → Int) (off : Int) (oa oF oE : Option Addr) (ca cF cE nF nE : Nat), e = .returned (.tuple #[r.val oa ca, .slice oF nF cF, .slice oE nE cE, .int .i64 off]) ∧ Truth r F E off ∧ r.nb = (nF : Int) ∧ r.nm = (nE : Int) ∧ TrpsAt w' oa r.n r.t ∧ IntsAt w' oF nF F ∧ IntsAt w' oE nE E) ∧ Below w.heap.size w w' := by
  have HQ := Lib.hid hQ
  have HQL := Lib.hid (show ∀ a, ka = some a → a.block < w.heap.size from fun a ha => by
    obtain ⟨-, qb, qo, e, hlt, -⟩ := hQ 0 hkn
    rw [ha] at e
    cases e
    exact hlt)
  clear hQ
  obtain ⟨nb, hn⟩ : ∃ n, n = 1 + a % 6 := ⟨_, rfl⟩
  have hn1 : 1 ≤ nb := by omega
  have hn2 : nb ≤ 6 := by omega
  have e1 : (1 : Int) + (a : Int).tmod 6 = (nb : Int) := by rw [Int.tmod_eq_emod_of_nonneg (by omega)]; omega
  have e1' : (1 : Int) + (a : Int) % 6 = (nb : Int) := by omega
  obtain ⟨nm, hk⟩ : ∃ n, n = 1 + b % 6 := ⟨_, rfl⟩
  have hk1 : 1 ≤ nm := by omega
  have hk2 : nm ≤ 6 := by omega
  have e2 : (1 : Int) + (b : Int).tmod 6 = (nm : Int) := by rw [Int.tmod_eq_emod_of_nonneg (by omega)]; omega
  have e2' : (1 : Int) + (b : Int) % 6 = (nm : Int) := by omega
  obtain ⟨o, ho⟩ : ∃ n, n = d % (nb + 1) := ⟨_, rfl⟩
  have ho2 : o ≤ nb := by have := Nat.mod_lt d (show 0 < nb + 1 by omega); omega
  have e3' : (d : Int) % ((nb : Int) + 1) = (o : Int) := by
    rw [ho, Int.natCast_emod]; rfl
  have e3 : (d : Int).tmod ((nb : Int) + 1) = (o : Int) := by rw [Int.tmod_eq_emod_of_nonneg (by omega)]; exact e3'
  clear hn hk ho
  go_enter Tryd.func23, Tryd.ntmps23
  go_upto_region 2 with fail
  have hb3 : Below w.heap.size w (((w.alloc (.cells #[.slice ka kn kc] 41)).alloc (.cells #[.int .i64 0, .int .i64 0, .int .i64 0, .slice none 0 0] 24)).alloc (.cells #[.int .i64 (nb : Nat), .int .i64 (nm : Nat), .int .i64 (m : Nat), .slice none 0 0] 24)) := (by repeat' (first | exact Below.refl _ _ | assumption | apply below_drewN | apply Below.drew | (refine Below.alloc ?_ ?_ _) | (refine Below.setCell ?_ ?_ _) | (simp; done) | (simp; omega) | omega))
  have z9 : Box w.heap.size #[.slice ka kn kc] 41 (((w.alloc (.cells #[.slice ka kn kc] 41)).alloc (.cells #[.int .i64 0, .int .i64 0, .int .i64 0, .slice none 0 0] 24)).alloc (.cells #[.int .i64 (nb : Nat), .int .i64 (nm : Nat), .int .i64 (m : Nat), .slice none 0 0] 24)) := ((Box.new _ 41 w rfl).old _).old _
  have z10 : Box (w.heap.size + 1) #[.int .i64 0, .int .i64 0, .int .i64 0, .slice none 0 0] 24 (((w.alloc (.cells #[.slice ka kn kc] 41)).alloc (.cells #[.int .i64 0, .int .i64 0, .int .i64 0, .slice none 0 0] 24)).alloc (.cells #[.int .i64 (nb : Nat), .int .i64 (nm : Nat), .int .i64 (m : Nat), .slice none 0 0] 24)) := (Box.new _ 24 _ (by simp)).old _
  have zR : Box (w.heap.size + 1 + 1) #[.int .i64 (nb : Nat), .int .i64 (nm : Nat), .int .i64 (m : Nat), .slice none 0 0] 24 (((w.alloc (.cells #[.slice ka kn kc] 41)).alloc (.cells #[.int .i64 0, .int .i64 0, .int .i64 0, .slice none 0 0] 24)).alloc (.cells #[.int .i64 (nb : Nat), .int .i64 (nm : Nat), .int .i64 (m : Nat), .slice none 0 0] 24)) := Box.new _ 24 _ (by simp)
  obtain ⟨X0, hW⟩ : ∃ X, X = (((w.alloc (.cells #[.slice ka kn kc] 41)).alloc (.cells #[.int .i64 0, .int .i64 0, .int .i64 0, .slice none 0 0] 24)).alloc (.cells #[.int .i64 (nb : Nat), .int .i64 (nm : Nat), .int .i64 (m : Nat), .slice none 0 0] 24)) := ⟨_, rfl⟩
  rw [← hW] at hb3 z9 z10 zR ⊢
  clear hW
  obtain ⟨gR, hG⟩ : ∃ G, G = w.heap.size + 1 + 1 := ⟨_, rfl⟩
  rw [← hG] at zR ⊢
  have HG := Lib.hid hG
  clear hG
  have r0 := zR.cell 0 (v := .int .i64 (nb : Nat)) rfl
  have r1 := zR.lt
  have hd0 : ((nb : Int) + 1) ≠ 0 := by omega
  have hw3 : wrap64 ((o : Int) - 1) = (o : Int) - 1 := by unfold wrap64; omega
  go_upto_region 7 with fail
  have hb4 := below_alloc1 X0 (.cells #[.int .i64 0] 3)
  have HT0 := Lib.hid (show TQ X0.heap.size gR 0 #[.int .i64 (nb : Nat), .int .i64 (nm : Nat), .int .i64 (m : Nat), .slice none 0 0] (X0.alloc (.cells #[.int .i64 0] 3)) (X0.alloc (.cells #[.int .i64 0] 3)) from TQ.start (Box.new _ 3 X0 rfl) (zR.old _))
  have HLW := Lib.hid (hb3.trans (hb4.mono hb3.size))
  have HZ9 := Lib.hid (z9.old (.cells #[.int .i64 0] 3))
  have HZ10 := Lib.hid (z10.old (.cells #[.int .i64 0] 3))
  have hs3 := hb3.size
  obtain ⟨gZ, hG2⟩ : ∃ G, G = X0.heap.size := ⟨_, rfl⟩
  have hgz : w.heap.size + 3 ≤ gZ := by have := zR.lt; have := HG.out; omega
  clear hb4 hb3 z9 z10 zR r0 r1
  have hG := HG.out
  obtain ⟨X1, hW⟩ : ∃ X, X = X0.alloc (.cells #[.int .i64 0] 3) := ⟨_, rfl⟩
  rw [← hW] at HT0 HLW HZ9 HZ10 ⊢
  rw [← hG2] at HT0 ⊢
  obtain ⟨kb, hG3⟩ : ∃ G, G = w.heap.size := ⟨_, rfl⟩
  have HKB := Lib.hid hG3
  have n1 : kb ≠ gZ := by omega
  have n2 : kb ≠ gR := by omega
  have n3 : gR ≠ gZ := by omega
  have hz : w.heap.size ≤ gZ := by omega
  have hr : w.heap.size ≤ gR := by omega
  have HN4 := Lib.hid (show w.heap.size + 1 ≠ gR ∧ w.heap.size + 1 ≠ gZ by omega)
  have HZ9 : Hid (Box kb #[.slice ka kn kc] 41 X1) := by rw [HKB.out]; exact HZ9
  rw [show (⟨w.heap.size, 0, none⟩ : Addr) = ⟨kb, 0, none⟩ by rw [HKB.out]]
  clear hW hG hG2 hG3 hs3 hgz HG X0 e1 e1' e2 e2' e3 e3' hd0 hw3
  have HDR := Lib.hid (fun (W0 A : World) (lo hi : Int) (j : Nat) (cs : Array Value) (hl : Below w.heap.size w W0) (hk : Box kb #[.slice ka kn kc] 41 W0) (hT : TQ gZ gR j cs W0 A) (h : lo ≤ hi) (hb0 : -1000000000000000 ≤ lo) (hb1 : hi ≤ 1000000000000000) (hj : j ≤ 1000000) => draw_tq lo hi gZ gR kb j ka kn kc q cs w W0 A hT hl hz hr hk n1 n2 n3 HQ.out HQL.out h hb0 hb1 hj hkn hkn2)
  obtain ⟨iR, hiR, hzR0, hzR1, hzR2⟩ := info_parts (P := Tryd.prog) (e := 3) (z := .int .i64 0) (size := 1) (bytes := 8) (by kernel_rfl)
  go_wp2_with fail
  go_loopw [18, 20] (fun v18 v20 wr => ∃ (i : Nat) (F : Nat → Int), i ≤ nb ∧ v20 = .int .i64 (i : Nat) ∧ (∀ c, c < i → (-600 ≤ F c ∧ F c ≤ 600) ∧ ((c : Int) ≠ (o : Int) - 1 → -(m : Int) ≤ F c ∧ F c ≤ (m : Int))) ∧ wr.ownsRow X1.heap.size 3 1 v18 i (intNews i F) ∧ TQ gZ gR i #[.int .i64 (nb : Nat), .int .i64 (nm : Nat), .int .i64 (m : Nat), .slice none 0 0] X1 wr) (fun _ v20 _ => nb - (intOf v20).toNat)
  case atStart => exact ⟨0, fun _ => 0, Nat.zero_le _, rfl, (fun c hc => by omega), owns_none, HT0.out⟩
  case round =>
    obtain ⟨i, F, hi, rfl, hF, hown, hT⟩ := hrel
    obtain ⟨oS, cS, rfl, -⟩ := owns_form hown
    have HT := Lib.hid hT
    have HF := Lib.hid hF
    have HOW := Lib.hid hown
    have r0 := hT.zR.cell 0 (v := .int .i64 (nb : Nat)) rfl
    have r2 := hT.zR.cell 2 (v := .int .i64 (m : Nat)) rfl
    have rl := hT.zR.lt
    clear hT hF hown HT0
    by_cases hin : i < nb
    · have hd1 : decide (i < nb) = true := decide_eq_true hin
      have hd2 : decide ((i : Int) < (nb : Int)) = true := decide_eq_true (by omega)
      by_cases hio : (i : Int) = (o : Int) - 1
      · have hd3 : ((i : Int) == (o : Int) - 1) = true := by simpa using hio
        have HIO := Lib.hid hio
        clear hio
        go_wp2_with fail
        refine (HDR.out X1 wr (-600) 600 i _ HLW.out HZ9.out HT.out (by omega) (by omega) (by omega) (by omega)).mono ?_
        rintro e X2 ⟨⟨rr, rfl, p0, p1⟩, hz9, hT2⟩
        have HO2 := Lib.hid ((owns_off HOW.out hz9.but HT.out.lz).alloc (.cells #[.int .i64 rr] 3))
        have HT2 := Lib.hid (hT2.on (below_alloc1 X2 (.cells #[.int .i64 rr] 3)))
        clear hz9 hT2 HT HOW r0 r2 rl hd1 hd2 hd3
        go_wp2_with (at_builtin; refine wpList_append_gen rfl (.tmp 53) (.tmp 56) _ rfl X1.heap.size 3 iR _ 1 8 Tryd.underlying37 hiR hzR0 hzR1 hzR2 rfl (by omega) (.slice oS i cS) i (intNews i F) rfl (some ⟨X2.heap.size, 0, none⟩) 1 1 [.int .i64 rr] rfl HO2.out (fun e9 => by cases e9) rfl (fun ad9 e9 j9 u9 hu9 => by cases e9; exact news_blk1 (e := 3) (heap_new rfl) hu9) (by simp [Value.oneCell']) (by simp only [maxLen]; omega) (by omega) HT2.out.same.size ?_; intro vS wS hownS hgrowS)
        have HTS := Lib.hid (HT2.out.grown HO2.out (Nat.le_refl _) hgrowS)
        have HOS := Lib.hid hownS
        clear hownS hgrowS HO2 HT2
        go_roundw
        case rel => exact ⟨i + 1, fun c => if c = i then rr else F c, by omega, by go_num, (fun c hc => by
            show (-600 ≤ (if c = i then rr else F c) ∧ (if c = i then rr else F c) ≤ 600) ∧ ((c : Int) ≠ (o : Int) - 1 → -(m : Int) ≤ (if c = i then rr else F c) ∧ (if c = i then rr else F c) ≤ (m : Int))
            by_cases hci : c = i
            · rw [if_pos hci, hci]
              have := HIO.out
              omega
            · rw [if_neg hci]; exact HF.out c (by omega)), (by have := HOS.out; rw [intNews_put i F rr] at this; exact this), HTS.out⟩
        case measure => simp [intOf]; omega
      · have hd3 : ((i : Int) == (o : Int) - 1) = false := by simpa using hio
        have HIO := Lib.hid hio
        clear hio
        have hw2 : wrap64 (-(m : Int)) = -(m : Int) := by unfold wrap64; omega
        go_wp2_with fail
        refine (HDR.out X1 wr (-(m : Int)) (m : Int) i _ HLW.out HZ9.out HT.out (by omega) (by omega) (by omega) (by omega)).mono ?_
        rintro e X2 ⟨⟨rr, rfl, p0, p1⟩, hz9, hT2⟩
        have HO2 := Lib.hid ((owns_off HOW.out hz9.but HT.out.lz).alloc (.cells #[.int .i64 rr] 3))
        have HT2 := Lib.hid (hT2.on (below_alloc1 X2 (.cells #[.int .i64 rr] 3)))
        clear hz9 hT2 HT HOW r0 r2 rl hd1 hd2 hd3 hw2
        go_wp2_with (at_builtin; refine wpList_append_gen rfl (.tmp 58) (.tmp 66) _ rfl X1.heap.size 3 iR _ 1 8 Tryd.underlying37 hiR hzR0 hzR1 hzR2 rfl (by omega) (.slice oS i cS) i (intNews i F) rfl (some ⟨X2.heap.size, 0, none⟩) 1 1 [.int .i64 rr] rfl HO2.out (fun e9 => by cases e9) rfl (fun ad9 e9 j9 u9 hu9 => by cases e9; exact news_blk1 (e := 3) (heap_new rfl) hu9) (by simp [Value.oneCell']) (by simp only [maxLen]; omega) (by omega) HT2.out.same.size ?_; intro vS wS hownS hgrowS)
        have HTS := Lib.hid (HT2.out.grown HO2.out (Nat.le_refl _) hgrowS)
        have HOS := Lib.hid hownS
        clear hownS hgrowS HO2 HT2
        go_roundw
        case rel => exact ⟨i + 1, fun c => if c = i then rr else F c, by omega, by go_num, (fun c hc => by
            show (-600 ≤ (if c = i then rr else F c) ∧ (if c = i then rr else F c) ≤ 600) ∧ ((c : Int) ≠ (o : Int) - 1 → -(m : Int) ≤ (if c = i then rr else F c) ∧ (if c = i then rr else F c) ≤ (m : Int))
            by_cases hci : c = i
            · rw [if_pos hci, hci]
              have := HIO.out
              omega
            · rw [if_neg hci]; exact HF.out c (by omega)), (by have := HOS.out; rw [intNews_put i F rr] at this; exact this), HTS.out⟩
        case measure => simp [intOf]; omega
    · obtain rfl : i = nb := by omega
      have hd1 : decide (i < i) = false := by simp
      have hd2 : decide ((i : Int) < (i : Int)) = false := by simp
      obtain ⟨oF, cF9, e9, hIF, hbF⟩ := owns_ints HOW.out
      cases e9
      have HIF := Lib.hid hIF
      have HNF := Lib.hid (show ∀ a, oS = some a → a.block ≠ gZ ∧ a.block ≠ gR ∧ a.block ≠ w.heap.size + 1 from fun a ha => by have := hbF a ha; have := HT.out.lz; have := HT.out.lr; have := HZ10.out.lt; omega)
      have HT3 := Lib.hid (TQ.start HT.out.zZ HT.out.zR)
      have HLW3 := Lib.hid (HT.out.low HLW.out hz hr)
      have HZ93 := Lib.hid (HT.out.box HZ9.out n1 n2)
      have HZ103 := Lib.hid (HT.out.box HZ10.out HN4.out.2 HN4.out.1)
      obtain ⟨oF, hOF⟩ : ∃ y, y = oS := ⟨_, rfl⟩
      obtain ⟨cF, hCF⟩ : ∃ y, y = cS := ⟨_, rfl⟩
      rw [← hOF] at HIF HNF ⊢
      rw [← hCF]
      clear hIF hbF HT HOW HLW HZ9 HZ10 hOF hCF r2
      go_wp2_with fail
      obtain ⟨X3, rfl⟩ : ∃ X, X = wr := ⟨_, rfl⟩
      clear r0 rl hd1 hd2
      go_loopw [19, 21] (fun v19 v21 wr => ∃ (k : Nat) (E : Nat → Int), k ≤ nm ∧ v21 = .int .i64 (k : Nat) ∧ (∀ c, c < k → -500 ≤ E c ∧ E c ≤ 500) ∧ wr.ownsRow X3.heap.size 3 1 v19 k (intNews k E) ∧ TQ gZ gR (i + k) #[.int .i64 (i : Nat), .int .i64 (nm : Nat), .int .i64 (m : Nat), .slice none 0 0] X3 wr) (fun _ v21 _ => nm - (intOf v21).toNat)
      case atStart => exact ⟨0, fun _ => 0, Nat.zero_le _, rfl, (fun c hc => by omega), owns_none, HT3.out⟩
      case round =>
        obtain ⟨k, E, hk, rfl, hE, hown, hT⟩ := hrel
        obtain ⟨oS, cS, rfl, -⟩ := owns_form hown
        have HT := Lib.hid hT
        have HE := Lib.hid hE
        have HOW := Lib.hid hown
        have r1 := hT.zR.cell 1 (v := .int .i64 (nm : Nat)) rfl
        have rl := hT.zR.lt
        clear hT hE hown HT3
        by_cases hin : k < nm
        · have hd1 : decide (k < nm) = true := decide_eq_true hin
          have hd2 : decide ((k : Int) < (nm : Int)) = true := decide_eq_true (by omega)
          go_wp2_with fail
          refine (HDR.out X3 wr (-500) 500 (i + k) _ HLW3.out HZ93.out HT.out (by omega) (by omega) (by omega) (by omega)).mono ?_
          rintro e X2 ⟨⟨rr, rfl, p0, p1⟩, hz9, hT2⟩
          have HO2 := Lib.hid ((owns_off HOW.out hz9.but HT.out.lz).alloc (.cells #[.int .i64 rr] 3))
          have HT2 := Lib.hid (hT2.on (below_alloc1 X2 (.cells #[.int .i64 rr] 3)))
          clear hz9 hT2 HT HOW r1 rl hd1 hd2
          go_wp2_with (at_builtin; refine wpList_append_gen rfl (.tmp 74) (.tmp 77) _ rfl X3.heap.size 3 iR _ 1 8 Tryd.underlying37 hiR hzR0 hzR1 hzR2 rfl (by omega) (.slice oS k cS) k (intNews k E) rfl (some ⟨X2.heap.size, 0, none⟩) 1 1 [.int .i64 rr] rfl HO2.out (fun e9 => by cases e9) rfl (fun ad9 e9 j9 u9 hu9 => by cases e9; exact news_blk1 (e := 3) (heap_new rfl) hu9) (by simp [Value.oneCell']) (by simp only [maxLen]; omega) (by omega) HT2.out.same.size ?_; intro vS wS hownS hgrowS)
          have HTS := Lib.hid (HT2.out.grown HO2.out (Nat.le_refl _) hgrowS)
          have HOS := Lib.hid hownS
          clear hownS hgrowS HO2 HT2
          go_roundw
          case rel => exact ⟨k + 1, fun c => if c = k then rr else E c, by omega, by go_num, (fun c hc => by
              show -500 ≤ (if c = k then rr else E c) ∧ (if c = k then rr else E c) ≤ 500
              by_cases hck : c = k
              · rw [if_pos hck]; omega
              · rw [if_neg hck]; exact HE.out c (by omega)), (by have := HOS.out; rw [intNews_put k E rr] at this; exact this), HTS.out⟩
          case measure => simp [intOf]; omega
        · obtain rfl : k = nm := by omega
          have hd1 : decide (k < k) = false := by simp
          have hd2 : decide ((k : Int) < (k : Int)) = false := by simp
          obtain ⟨oE, cE9, e9, hIE, hbE⟩ := owns_ints HOW.out
          cases e9
          have HIE := Lib.hid hIE
          have HNE := Lib.hid (show ∀ a, oS = some a → a.block ≠ gZ ∧ a.block ≠ gR ∧ a.block ≠ w.heap.size + 1 from fun a ha => by have := hbE a ha; have := HT.out.lz; have := HT.out.lr; have := HZ103.out.lt; omega)
          have HT4 := Lib.hid (TQ.start HT.out.zZ HT.out.zR)
          have HLW4 := Lib.hid (HT.out.low HLW3.out hz hr)
          have HZ94 := Lib.hid (HT.out.box HZ93.out n1 n2)
          have HZ104 := Lib.hid (HT.out.box HZ103.out HN4.out.2 HN4.out.1)
          have HIF4 := Lib.hid (HT.out.ints HIF.out (fun a ha => ⟨(HNF.out a ha).1, (HNF.out a ha).2.1⟩))
          obtain ⟨oE, hOE⟩ : ∃ y, y = oS := ⟨_, rfl⟩
          obtain ⟨cE, hCE⟩ : ∃ y, y = cS := ⟨_, rfl⟩
          rw [← hOE] at HIE HNE ⊢
          rw [← hCE]
          clear hIE hbE HT HOW HLW3 HZ93 HZ103 HIF hOE hCE
          go_wp2_with fail
          obtain ⟨X4, rfl⟩ : ∃ X, X = wr := ⟨_, rfl⟩
          clear r1 rl hd1 hd2 iR hiR hzR0 hzR1 hzR2
          obtain ⟨iR, hiR, hzR0, hzR1, hzR2⟩ := info_parts (P := Tryd.prog) (e := 48) (z := .agg #[.int .i64 0, .int .i64 0, .int .i64 0, .int .i64 0]) (size := 4) (bytes := 32) (by kernel_rfl)
          go_loopw [22] (fun v22 wr => ∃ (x j : Nat) (t : Nat → Trp) (ts : Value), x ≤ 14 ∧ v22 = .int .i64 (x : Nat) ∧ j ≤ 12 + 4 * x ∧ (∀ c, c < x → TripOk i k F E (t c)) ∧ wr.ownsRow X4.heap.size 48 4 ts x (trpNews x t) ∧ TQ gZ gR j #[.int .i64 (i : Nat), .int .i64 (k : Nat), .int .i64 (m : Nat), ts] X4 wr) (fun v22 _ => 14 - (intOf v22).toNat)
          case atStart => exact ⟨0, i + k, fun _ => ⟨0, 0, 0, 0⟩, _, Nat.zero_le _, rfl, (by omega), (fun c hc => by omega), owns_none, HT4.out⟩
          case round =>
            obtain ⟨x, j, t, ts, hx, rfl, hj, ht, hown, hT⟩ := hrel
            obtain ⟨oT, cT, rfl, -⟩ := owns_form hown
            have HT := Lib.hid hT
            have HTO := Lib.hid ht
            have HOW := Lib.hid hown
            have zb := hT.box HZ94.out n1 n2
            have c5 := zb.cell 0 (v := .slice ka kn kc) rfl
            have c6 := zb.lt
            clear hT ht hown HT4 zb
            by_cases h14 : x < 14
            · have hd1 : decide (x < 14) = true := decide_eq_true h14
              have hd2 : decide ((x : Int) < 14) = true := decide_eq_true (by omega)
              by_cases hkm : (x : Int) < wrap64 (3 * (kn : Int))
              · have hd3 : decide ((x : Int) < wrap64 (3 * (kn : Int))) = true := decide_eq_true hkm
                go_upto_region 19 with fail
                clear c5 c6 hd1 hd2 hd3
                go_cut [23] (fun s23 wx => ∃ (gT : Nat) (bb mm : Int), s23 = .pointer (some ⟨gT, 0, none⟩) ∧ X4.heap.size ≤ gT ∧ (∀ b9, (Value.slice oT x cT).ownBlock = some b9 → b9 ≠ gT) ∧ (0 ≤ bb ∧ bb < (i : Int)) ∧ (0 ≤ mm ∧ mm < (k : Int)) ∧ TQ gZ gR (j + 1 + 1) #[.int .i64 (i : Nat), .int .i64 (k : Nat), .int .i64 (m : Nat), .slice oT x cT] X4 wx ∧ wx.ownsRow X4.heap.size 48 4 (.slice oT x cT) x (trpNews x t) ∧ Box gT #[.int .i64 bb, .int .i64 mm, .int .i64 0, .int .i64 0] 48 wx)
                case first =>
                  as_aux_lemma =>
                    have hCC : ∀ A B : World, (∃ j' : Nat, TQ gZ gR j' #[.int .i64 (i : Nat), .int .i64 (k : Nat), .int .i64 (m : Nat), .slice oT x cT] X4 A) → Below A.heap.size A B → (∃ j' : Nat, TQ gZ gR j' #[.int .i64 (i : Nat), .int .i64 (k : Nat), .int .i64 (m : Nat), .slice oT x cT] X4 B) := fun A B ⟨j', h9⟩ h2 => ⟨j', h9.on h2⟩
                    have hC0 : TQ gZ gR j #[.int .i64 (i : Nat), .int .i64 (k : Nat), .int .i64 (m : Nat), .slice oT x cT] X4 wr.drew := HT.out.on (Below.refl _ _).drew
                    have hown := owns_below HOW.out ((Below.refl wr.heap.size wr).drew)
                    refine wp_region_garb (fun A => ∃ j' : Nat, TQ gZ gR j' #[.int .i64 (i : Nat), .int .i64 (k : Nat), .int .i64 (m : Nat), .slice oT x cT] X4 A) (by kernel_rfl) ?_
                    (refine wpAnyG_take (i := 0) hCC ⟨_, hC0⟩ rfl (by kernel_rfl) (by kernel_rfl) (by kernel_rfl) (fun _ _ _ _ h => h) (by rfl) ?_; apply Exists.intro; refine ⟨fun w1 h1 K hK => ?_, ?_⟩; · ( go_big_quiet_op; first | exact hK | fail))
                    (refine wpAnyG_take (i := 1) hCC ⟨_, hC0⟩ rfl (by kernel_rfl) (by kernel_rfl) (by kernel_rfl) (fun _ _ _ _ h => h) (by rfl) ?_; apply Exists.intro; refine ⟨fun w1 h1 K hK => ?_, ?_⟩; · ( go_big_quiet_op; first | exact hK | fail))
                    (refine wpAnyG_take (i := 2) hCC ⟨_, hC0⟩ rfl (by kernel_rfl) (by kernel_rfl) (by kernel_rfl) (fun _ _ _ _ h => h) (by rfl) ?_; apply Exists.intro; refine ⟨fun w1 h1 K hK => ?_, ?_⟩; · (have zq : ∀ W : Aft w1, Box gR #[.int .i64 (i : Nat), .int .i64 (k : Nat), .int .i64 (m : Nat), .slice oT x cT] 24 W.val := fun W => (by obtain ⟨j', h9⟩ := hCC _ _ h1 W.below; exact h9.zR); have q0 : ∀ W : Aft w1, W.val.cell? ⟨gR, 0, none⟩ = some (.int .i64 (i : Nat)) := fun W => (zq W).cell 0 rfl; have q1 : ∀ W : Aft w1, W.val.cell? ⟨gR, 1, none⟩ = some (.int .i64 (k : Nat)) := fun W => (zq W).cell 1 rfl; clear zq; go_big_quiet_op; first | exact hK | fail))
                    (refine wpAnyG_take (i := 3) hCC ⟨_, hC0⟩ rfl (by kernel_rfl) (by kernel_rfl) (by kernel_rfl) (fun _ _ _ _ h => h) (by rfl) ?_; apply Exists.intro; refine ⟨fun w1 h1 K hK => ?_, ?_⟩; · ( go_big_quiet_op; first | exact hK | fail))
                    (refine wpAnyG_take (i := 5) hCC ⟨_, hC0⟩ rfl (by kernel_rfl) (by kernel_rfl) (by kernel_rfl) (fun _ _ _ _ h => h) (by rfl) ?_; apply Exists.intro; refine ⟨fun w1 h1 K hK => ?_, ?_⟩; · ( go_big_quiet_op; first | exact hK | fail))
                    (refine wpAnyG_take (i := 6) hCC ⟨_, hC0⟩ rfl (by kernel_rfl) (by kernel_rfl) (by kernel_rfl) (fun _ _ _ _ h => h) (by rfl) ?_; apply Exists.intro; refine ⟨fun w1 h1 K hK => ?_, ?_⟩; · ( go_big_quiet_op; first | exact hK | fail))
                    (refine wpAnyG_take (i := 7) hCC ⟨_, hC0⟩ rfl (by kernel_rfl) (by kernel_rfl) (by kernel_rfl) (fun _ _ _ _ h => h) (by rfl) ?_; apply Exists.intro; refine ⟨fun w1 h1 K hK => ?_, ?_⟩; · (have zq : ∀ W : Aft w1, Box gR #[.int .i64 (i : Nat), .int .i64 (k : Nat), .int .i64 (m : Nat), .slice oT x cT] 24 W.val := fun W => (by obtain ⟨j', h9⟩ := hCC _ _ h1 W.below; exact h9.zR); have q0 : ∀ W : Aft w1, W.val.cell? ⟨gR, 0, none⟩ = some (.int .i64 (i : Nat)) := fun W => (zq W).cell 0 rfl; have q1 : ∀ W : Aft w1, W.val.cell? ⟨gR, 1, none⟩ = some (.int .i64 (k : Nat)) := fun W => (zq W).cell 1 rfl; clear zq; go_big_quiet_op; first | exact hK | fail))
                    (refine wpAnyG_take (i := 8) hCC ⟨_, hC0⟩ rfl (by kernel_rfl) (by kernel_rfl) (by kernel_rfl) (fun _ _ _ _ h => h) (by rfl) ?_; apply Exists.intro; refine ⟨fun w1 h1 K hK => ?_, ?_⟩; · ( go_big_quiet_op; first | exact hK | fail))
                    (refine wpAnyG_two (i := 4) (k := 11) (by kernel_rfl) rfl rfl (by rfl) (by rfl) (fun wa hwa K hK => ?_) (fun wa hwa K hK => ?_))
                    ·
                      have hTa := hC0.on hwa
                      have hOa := owns_below hown hwa
                      go_simp
                      refine (HDR.out X4 wa 0 ((i : Int) - 1) j _ HLW4.out HZ94.out hTa (by omega) (by omega) (by omega) (by omega)).mono ?_
                      rintro e wb ⟨⟨bb, rfl, p40, p41⟩, hz9, hTb⟩
                      have hOb := owns_off hOa hz9.but hTa.lz
                      refine hK _ _ ⟨_, hTb⟩ ?_
                      clear hK K hz9 hTa hOa hwa hC0 hown 
                      have hC0 := hTb
                      have hown := hOb
                      clear hTb hOb 
                      (refine wpAnyG_two (i := 9) (k := 11) (by kernel_rfl) rfl rfl (by rfl) (by rfl) (fun wa hwa K hK => ?_) (fun wa hwa K hK => ?_))
                      ·
                        have hTa := hC0.on hwa
                        have hOa := owns_below hown hwa
                        go_simp
                        refine (HDR.out X4 wa 0 ((k : Int) - 1) (j + 1) _ HLW4.out HZ94.out hTa (by omega) (by omega) (by omega) (by omega)).mono ?_
                        rintro e wb ⟨⟨mm, rfl, p90, p91⟩, hz9, hTb⟩
                        have hOb := owns_off hOa hz9.but hTa.lz
                        refine hK _ _ ⟨_, hTb⟩ ?_
                        clear hK K hz9 hTa hOa hwa hC0 hown 
                        have hC0 := hTb
                        have hown := hOb
                        clear hTb hOb 
                        (refine wpAnyG_take (i := 10) hCC ⟨_, hC0⟩ rfl (by kernel_rfl) (by kernel_rfl) (by kernel_rfl) (fun _ _ _ _ h => h) (by rfl) ?_; apply Exists.intro; refine ⟨fun w1 h1 K hK => ?_, ?_⟩; · ( go_big_quiet_op; first | exact hK | fail))
                        (refine wpAnyG_one (i := 11) (by kernel_rfl) rfl (by rfl) (fun wa hwa K hK => ?_))
                        go_simp
                        have hTa := (hC0.on hwa).on (below_alloc1 wa (.cells #[.int .i64 0, .int .i64 0, .int .i64 0, .int .i64 0] 48))
                        have hOa := owns_below (owns_below hown hwa) (below_alloc1 wa (.cells #[.int .i64 0, .int .i64 0, .int .i64 0, .int .i64 0] 48))
                        have hPO : ∀ b9, (Value.slice oT x cT).ownBlock = some b9 → b9 ≠ wa.heap.size := fun b9 e9 => by have := own_lt (owns_below hown hwa) b9 e9; omega
                        have zT := Box.new (g := wa.heap.size) #[.int .i64 0, .int .i64 0, .int .i64 0, .int .i64 0] 48 wa rfl
                        have hgT : X4.heap.size ≤ wa.heap.size := Nat.le_trans hC0.same.size hwa.size
                        refine hK _ _ ⟨_, hTa⟩ ?_
                        clear hK K hC0 hown hwa
                        obtain ⟨gT, hG⟩ : ∃ G, G = wa.heap.size := ⟨_, rfl⟩
                        obtain ⟨wA, hWA⟩ : ∃ X, X = wa.alloc (.cells #[.int .i64 0, .int .i64 0, .int .i64 0, .int .i64 0] 48) := ⟨_, rfl⟩
                        rw [← hWA] at zT hTa hOa ⊢
                        rw [← hG] at zT hPO hgT ⊢
                        clear hG hWA
                        have nTZ : gT ≠ gZ := by have := hTa.lz; omega
                        have nTR : gT ≠ gR := by have := hTa.lr; omega
                        have hC0 := hTa
                        have hown := hOa
                        clear hTa hOa
                        (refine wpAnyG_one (i := 12) (by kernel_rfl) rfl (by rfl) (fun wa hwa K hK => ?_))
                        have hTa := hC0.on hwa
                        have hOa := owns_below hown hwa
                        have zTa := zT.below hwa
                        refine wp_store_box (zTa) rfl rfl rfl rfl (by kernel_rfl) (by simp [Value.oneCell']) (fun wb s6 ho => ?_); dsimp only [Act.put]
                        have hTb : TQ gZ gR (j + 1 + 1) #[.int .i64 (i : Nat), .int .i64 (k : Nat), .int .i64 (m : Nat), .slice oT x cT] X4 wb := ⟨hTa.same.trans ⟨ho.os, ho.tape, ho.output, Nat.le_of_eq ho.size.symm, fun b9 _ hp => ho.block b9 (by omega)⟩, ho.box hTa.zZ (Ne.symm nTZ), ho.box hTa.zR (Ne.symm nTR), hTa.lz, hTa.lr⟩
                        have hOb := owns_but hOa ho.but hPO
                        refine hK _ _ ⟨_, hTb⟩ ?_
                        clear hK K
                        refine wpAnyG_done (by kernel_rfl) (fun wz hwz => ?_) _
                        go_wp2_with fail
                        go_meet
                        exact ⟨_, _, _, rfl, hgT, hPO, ⟨p40, by omega⟩, ⟨p90, by omega⟩, hTb.on hwz, owns_below hOb hwz, s6.below hwz⟩
                      ·
                        go_simp
                        have hTa := (hC0.on hwa).on (below_alloc1 wa (.cells #[.int .i64 0, .int .i64 0, .int .i64 0, .int .i64 0] 48))
                        have hOa := owns_below (owns_below hown hwa) (below_alloc1 wa (.cells #[.int .i64 0, .int .i64 0, .int .i64 0, .int .i64 0] 48))
                        have hPO : ∀ b9, (Value.slice oT x cT).ownBlock = some b9 → b9 ≠ wa.heap.size := fun b9 e9 => by have := own_lt (owns_below hown hwa) b9 e9; omega
                        have zT := Box.new (g := wa.heap.size) #[.int .i64 0, .int .i64 0, .int .i64 0, .int .i64 0] 48 wa rfl
                        have hgT : X4.heap.size ≤ wa.heap.size := Nat.le_trans hC0.same.size hwa.size
                        refine hK _ _ ⟨_, hTa⟩ ?_
                        clear hK K hC0 hown hwa
                        obtain ⟨gT, hG⟩ : ∃ G, G = wa.heap.size := ⟨_, rfl⟩
                        obtain ⟨wA, hWA⟩ : ∃ X, X = wa.alloc (.cells #[.int .i64 0, .int .i64 0, .int .i64 0, .int .i64 0] 48) := ⟨_, rfl⟩
                        rw [← hWA] at zT hTa hOa ⊢
                        rw [← hG] at zT hPO hgT ⊢
                        clear hG hWA
                        have nTZ : gT ≠ gZ := by have := hTa.lz; omega
                        have nTR : gT ≠ gR := by have := hTa.lr; omega
                        have hC0 := hTa
                        have hown := hOa
                        clear hTa hOa
                        (refine wpAnyG_one (i := 9) (by kernel_rfl) rfl (by rfl) (fun wa hwa K hK => ?_))
                        have hTa := hC0.on hwa
                        have hOa := owns_below hown hwa
                        have zTa := zT.below hwa
                        go_simp
                        refine (HDR.out X4 wa 0 ((k : Int) - 1) (j + 1) _ HLW4.out HZ94.out hTa (by omega) (by omega) (by omega) (by omega)).mono ?_
                        rintro e wb ⟨⟨mm, rfl, p90, p91⟩, hz9, hTb⟩
                        have hOb := owns_off hOa hz9.but hTa.lz
                        have zTb := hz9.old zTa nTZ
                        refine hK _ _ ⟨_, hTb⟩ ?_
                        clear hK K hz9 hTa hOa hwa hC0 hown zTa zT
                        have hC0 := hTb
                        have hown := hOb
                        have zT := zTb
                        clear hTb hOb zTb
                        (refine wpAnyG_take (i := 10) hCC ⟨_, hC0⟩ rfl (by kernel_rfl) (by kernel_rfl) (by kernel_rfl) (fun _ _ _ _ h => h) (by rfl) ?_; apply Exists.intro; refine ⟨fun w1 h1 K hK => ?_, ?_⟩; · ( go_big_quiet_op; first | exact hK | fail))
                        (refine wpAnyG_one (i := 12) (by kernel_rfl) rfl (by rfl) (fun wa hwa K hK => ?_))
                        have hTa := hC0.on hwa
                        have hOa := owns_below hown hwa
                        have zTa := zT.below hwa
                        refine wp_store_box (zTa) rfl rfl rfl rfl (by kernel_rfl) (by simp [Value.oneCell']) (fun wb s6 ho => ?_); dsimp only [Act.put]
                        have hTb : TQ gZ gR (j + 1 + 1) #[.int .i64 (i : Nat), .int .i64 (k : Nat), .int .i64 (m : Nat), .slice oT x cT] X4 wb := ⟨hTa.same.trans ⟨ho.os, ho.tape, ho.output, Nat.le_of_eq ho.size.symm, fun b9 _ hp => ho.block b9 (by omega)⟩, ho.box hTa.zZ (Ne.symm nTZ), ho.box hTa.zR (Ne.symm nTR), hTa.lz, hTa.lr⟩
                        have hOb := owns_but hOa ho.but hPO
                        refine hK _ _ ⟨_, hTb⟩ ?_
                        clear hK K
                        refine wpAnyG_done (by kernel_rfl) (fun wz hwz => ?_) _
                        go_wp2_with fail
                        go_meet
                        exact ⟨_, _, _, rfl, hgT, hPO, ⟨p40, by omega⟩, ⟨p90, by omega⟩, hTb.on hwz, owns_below hOb hwz, s6.below hwz⟩
                    ·
                      go_simp
                      have hTa := (hC0.on hwa).on (below_alloc1 wa (.cells #[.int .i64 0, .int .i64 0, .int .i64 0, .int .i64 0] 48))
                      have hOa := owns_below (owns_below hown hwa) (below_alloc1 wa (.cells #[.int .i64 0, .int .i64 0, .int .i64 0, .int .i64 0] 48))
                      have hPO : ∀ b9, (Value.slice oT x cT).ownBlock = some b9 → b9 ≠ wa.heap.size := fun b9 e9 => by have := own_lt (owns_below hown hwa) b9 e9; omega
                      have zT := Box.new (g := wa.heap.size) #[.int .i64 0, .int .i64 0, .int .i64 0, .int .i64 0] 48 wa rfl
                      have hgT : X4.heap.size ≤ wa.heap.size := Nat.le_trans hC0.same.size hwa.size
                      refine hK _ _ ⟨_, hTa⟩ ?_
                      clear hK K hC0 hown hwa
                      obtain ⟨gT, hG⟩ : ∃ G, G = wa.heap.size := ⟨_, rfl⟩
                      obtain ⟨wA, hWA⟩ : ∃ X, X = wa.alloc (.cells #[.int .i64 0, .int .i64 0, .int .i64 0, .int .i64 0] 48) := ⟨_, rfl⟩
                      rw [← hWA] at zT hTa hOa ⊢
                      rw [← hG] at zT hPO hgT ⊢
                      clear hG hWA
                      have nTZ : gT ≠ gZ := by have := hTa.lz; omega
                      have nTR : gT ≠ gR := by have := hTa.lr; omega
                      have hC0 := hTa
                      have hown := hOa
                      clear hTa hOa
                      (refine wpAnyG_one (i := 4) (by kernel_rfl) rfl (by rfl) (fun wa hwa K hK => ?_))
                      have hTa := hC0.on hwa
                      have hOa := owns_below hown hwa
                      have zTa := zT.below hwa
                      go_simp
                      refine (HDR.out X4 wa 0 ((i : Int) - 1) j _ HLW4.out HZ94.out hTa (by omega) (by omega) (by omega) (by omega)).mono ?_
                      rintro e wb ⟨⟨bb, rfl, p40, p41⟩, hz9, hTb⟩
                      have hOb := owns_off hOa hz9.but hTa.lz
                      have zTb := hz9.old zTa nTZ
                      refine hK _ _ ⟨_, hTb⟩ ?_
                      clear hK K hz9 hTa hOa hwa hC0 hown zTa zT
                      have hC0 := hTb
                      have hown := hOb
                      have zT := zTb
                      clear hTb hOb zTb
                      (refine wpAnyG_one (i := 9) (by kernel_rfl) rfl (by rfl) (fun wa hwa K hK => ?_))
                      have hTa := hC0.on hwa
                      have hOa := owns_below hown hwa
                      have zTa := zT.below hwa
                      go_simp
                      refine (HDR.out X4 wa 0 ((k : Int) - 1) (j + 1) _ HLW4.out HZ94.out hTa (by omega) (by omega) (by omega) (by omega)).mono ?_
                      rintro e wb ⟨⟨mm, rfl, p90, p91⟩, hz9, hTb⟩
                      have hOb := owns_off hOa hz9.but hTa.lz
                      have zTb := hz9.old zTa nTZ
                      refine hK _ _ ⟨_, hTb⟩ ?_
                      clear hK K hz9 hTa hOa hwa hC0 hown zTa zT
                      have hC0 := hTb
                      have hown := hOb
                      have zT := zTb
                      clear hTb hOb zTb
                      (refine wpAnyG_take (i := 10) hCC ⟨_, hC0⟩ rfl (by kernel_rfl) (by kernel_rfl) (by kernel_rfl) (fun _ _ _ _ h => h) (by rfl) ?_; apply Exists.intro; refine ⟨fun w1 h1 K hK => ?_, ?_⟩; · ( go_big_quiet_op; first | exact hK | fail))
                      (refine wpAnyG_one (i := 12) (by kernel_rfl) rfl (by rfl) (fun wa hwa K hK => ?_))
                      have hTa := hC0.on hwa
                      have hOa := owns_below hown hwa
                      have zTa := zT.below hwa
                      refine wp_store_box (zTa) rfl rfl rfl rfl (by kernel_rfl) (by simp [Value.oneCell']) (fun wb s6 ho => ?_); dsimp only [Act.put]
                      have hTb : TQ gZ gR (j + 1 + 1) #[.int .i64 (i : Nat), .int .i64 (k : Nat), .int .i64 (m : Nat), .slice oT x cT] X4 wb := ⟨hTa.same.trans ⟨ho.os, ho.tape, ho.output, Nat.le_of_eq ho.size.symm, fun b9 _ hp => ho.block b9 (by omega)⟩, ho.box hTa.zZ (Ne.symm nTZ), ho.box hTa.zR (Ne.symm nTR), hTa.lz, hTa.lr⟩
                      have hOb := owns_but hOa ho.but hPO
                      refine hK _ _ ⟨_, hTb⟩ ?_
                      clear hK K
                      refine wpAnyG_done (by kernel_rfl) (fun wz hwz => ?_) _
                      go_wp2_with fail
                      go_meet
                      exact ⟨_, _, _, rfl, hgT, hPO, ⟨p40, by omega⟩, ⟨p90, by omega⟩, hTb.on hwz, owns_below hOb hwz, s6.below hwz⟩
                case rest =>
                  obtain ⟨gT, bb, mm, rfl, hgT, hPO, hbb, hmm, hT5, hO5, zT5⟩ := hcut
                  obtain ⟨B, rfl⟩ : ∃ n : Nat, bb = n := ⟨bb.toNat, by omega⟩
                  obtain ⟨M, rfl⟩ : ∃ n : Nat, mm = n := ⟨mm.toNat, by omega⟩
                  have nTZ : gT ≠ gZ := by have := hT5.lz; omega
                  have nTR : gT ≠ gR := by have := hT5.lr; omega
                  obtain ⟨fb, fo, e9, hfl, fc⟩ := hT5.ints HIF4.out (fun a ha => ⟨(HNF.out a ha).1, (HNF.out a ha).2.1⟩) B (by omega)
                  subst e9
                  obtain ⟨eb, eo, e9, hel, ec⟩ := hT5.ints HIE.out (fun a ha => ⟨(HNE.out a ha).1, (HNE.out a ha).2.1⟩) M (by omega)
                  subst e9
                  have f0 := (HF.out B (by omega)).1
                  have e0 := HE.out M (by omega)
                  obtain ⟨f, hf⟩ : ∃ f, f = F B := ⟨_, rfl⟩
                  obtain ⟨e, he⟩ : ∃ e, e = E M := ⟨_, rfl⟩
                  rw [← hf] at fc f0
                  rw [← he] at ec e0
                  have HFE := Lib.hid (And.intro hf he)
                  clear hf he
                  have q0 : ∀ W : Aft wc, W.val.cell? ⟨gT, 0, none⟩ = some (.int .i64 (B : Nat)) := fun W => (zT5.below W.below).cell 0 rfl
                  have q1 : ∀ W : Aft wc, W.val.cell? ⟨gT, 1, none⟩ = some (.int .i64 (M : Nat)) := fun W => (zT5.below W.below).cell 1 rfl
                  have q2 : ∀ W : Aft wc, W.val.cell? ⟨fb, fo + B, none⟩ = some (.int .i64 f) := fun W => (W.below.cell (p := ⟨fb, fo + B, none⟩) hfl).trans fc
                  have q3 : ∀ W : Aft wc, W.val.cell? ⟨eb, eo + M, none⟩ = some (.int .i64 e) := fun W => (W.below.cell (p := ⟨eb, eo + M, none⟩) hel).trans ec
                  have x1 : (0 : Int) ≤ (B : Int) := by omega
                  have x2 : (B : Int) < (i : Int) := hbb.2
                  have x3 : (0 : Int) ≤ (M : Int) := by omega
                  have x4 : (M : Int) < (k : Int) := hmm.2
                  have HT5 := Lib.hid hT5
                  have HO5 := Lib.hid hO5
                  have ZT5 := Lib.hid zT5
                  have HPO := Lib.hid hPO
                  clear hT5 hO5 zT5 hPO hfl fc hel ec hbb hmm
                  go_upto_region 20 with fail
                  refine wp_region_aft (by kernel_rfl) (by kernel_rfl) ?_
                  repeat (go_big_quiet_step (fail))
                  refine wpQuiet_nil ?_
                  intro WA
                  obtain ⟨wy, hwy⟩ : ∃ X, X = WA.val := ⟨_, rfl⟩
                  have hby := WA.below
                  rw [← hwy] at hby ⊢
                  clear hwy WA
                  have HT6 := Lib.hid (HT5.out.on hby)
                  have HO6 := Lib.hid (owns_below HO5.out hby)
                  have ZT6 := Lib.hid (ZT5.out.below hby)
                  clear hby q0 q1 q2 q3 HT5 HO5 ZT5
                  go_wp2_with fail
                  refine (HDR.out X4 wy 0 5 (j + 1 + 1) _ HLW4.out HZ94.out HT6.out (by omega) (by omega) (by omega) (by omega)).mono ?_
                  rintro e9 X5 ⟨⟨r2, rfl, p0, p1⟩, hz9, hT2⟩
                  have HT7 := Lib.hid hT2
                  have HO7 := Lib.hid (owns_off HO6.out hz9.but HT6.out.lz)
                  have ZT7 := Lib.hid (hz9.old ZT6.out nTZ)
                  clear hz9 hT2 HT6 HO6 ZT6
                  go_wp2_with fail
                  refine (HDR.out X4 X5 0 5 (j + 1 + 1 + 1) _ HLW4.out HZ94.out HT7.out (by omega) (by omega) (by omega) (by omega)).mono ?_
                  rintro e9 X6 ⟨⟨r3, rfl, p2, p3⟩, hz9, hT2⟩
                  have HT8 := Lib.hid hT2
                  have HO8 := Lib.hid (owns_off HO7.out hz9.but HT7.out.lz)
                  have ZT8 := Lib.hid (hz9.old ZT7.out nTZ)
                  clear hz9 hT2 HT7 HO7 ZT7
                  go_wp2_with fail
                  refine (lspan_any (f + e - r2) (f + e + r3) X6).mono ?_
                  rintro e9 X7 ⟨rfl, hb7⟩
                  have HT9 := Lib.hid (HT8.out.on hb7)
                  have HO9 := Lib.hid (owns_below HO8.out hb7)
                  have ZT9 := Lib.hid (ZT8.out.below hb7)
                  clear hb7 HT8 HO8 ZT8
                  have s1 := ZT9.out.cell 2 (v := .int .i64 0) rfl
                  have s2 := ZT9.out.cell 3 (v := .int .i64 0) rfl
                  have s3 := ZT9.out.lt
                  have s4 := ZT9.out.frozen 2
                  have s5 := ZT9.out.frozen 3
                  go_upto_region 22 with fail
                  have zP9 : Box gT #[.int .i64 (B : Nat), .int .i64 (M : Nat), .int .i64 (f + e - r2), .int .i64 (f + e + r3)] 48 ((X7.setCell ⟨gT, 2, none⟩ (.int .i64 (f + e - r2))).setCell ⟨gT, 3, none⟩ (.int .i64 (f + e + r3))) := (ZT9.out.set 2 (.int .i64 (f + e - r2))).set 3 (.int .i64 (f + e + r3))
                  have ho9 := ((Only.refl gT X7).setCell 2 (.int .i64 (f + e - r2))).setCell 3 (.int .i64 (f + e + r3))
                  have hT9 : TQ gZ gR (j + 1 + 1 + 1 + 1) #[.int .i64 (i : Nat), .int .i64 (k : Nat), .int .i64 (m : Nat), .slice oT x cT] X4 ((X7.setCell ⟨gT, 2, none⟩ (.int .i64 (f + e - r2))).setCell ⟨gT, 3, none⟩ (.int .i64 (f + e + r3))) := ⟨HT9.out.same.trans ⟨ho9.os, ho9.tape, ho9.output, Nat.le_of_eq ho9.size.symm, fun b9 _ hp => ho9.block b9 (by omega)⟩, ho9.box HT9.out.zZ (Ne.symm nTZ), ho9.box HT9.out.zR (Ne.symm nTR), HT9.out.lz, HT9.out.lr⟩
                  have hO9 := owns_but HO9.out ho9.but HPO.out
                  obtain ⟨X8, hW⟩ : ∃ X, X = ((X7.setCell ⟨gT, 2, none⟩ (.int .i64 (f + e - r2))).setCell ⟨gT, 3, none⟩ (.int .i64 (f + e + r3))) := ⟨_, rfl⟩
                  rw [← hW] at zP9 hT9 hO9 ⊢
                  clear hW ho9 s1 s2 s3 s4 s5 HT9 HO9 ZT9 HPO
                  have HTA := Lib.hid hT9
                  have HOA := Lib.hid hO9
                  have a0 := hT9.zR.cell 3 (v := .slice oT x cT) rfl
                  have a1 := hT9.zR.lt
                  have b0 := zP9.cell 0 (v := .int .i64 (B : Nat)) rfl
                  have b1 := zP9.cell 1 (v := .int .i64 (M : Nat)) rfl
                  have b2 := zP9.cell 2 (v := .int .i64 (f + e - r2)) rfl
                  have b4 := zP9.cell 3 (v := .int .i64 (f + e + r3)) rfl
                  have b3 := zP9.lt
                  clear hT9 hO9 zP9
                  have HOE := Lib.hid (owns_below HOA.out (below_alloc1 X8 (.cells #[.int .i64 (B : Nat), .int .i64 (M : Nat), .int .i64 (f + e - r2), .int .i64 (f + e + r3)] 48)))
                  have HTE := Lib.hid (HTA.out.on (below_alloc1 X8 (.cells #[.int .i64 (B : Nat), .int .i64 (M : Nat), .int .i64 (f + e - r2), .int .i64 (f + e + r3)] 48)))
                  have HNW := Lib.hid (show ∀ ad, some (⟨X8.heap.size, 0, none⟩ : Addr) = some ad → ∀ j9 u9, ([.int .i64 (B : Nat), .int .i64 (M : Nat), .int .i64 (f + e - r2), .int .i64 (f + e + r3)] : List Value)[j9]? = some u9 → (X8.alloc (.cells #[.int .i64 (B : Nat), .int .i64 (M : Nat), .int .i64 (f + e - r2), .int .i64 (f + e + r3)] 48)).cell? (ad.add j9) = some u9 from fun ad9 e9 j9 u9 hu9 => by cases e9; rw [add_flat, Nat.zero_add]; exact (Box.new #[.int .i64 (B : Nat), .int .i64 (M : Nat), .int .i64 (f + e - r2), .int .i64 (f + e + r3)] 48 X8 rfl).cell j9 (by rw [List.getElem?_toArray]; exact hu9))
                  go_wp2_with (at_builtin; (refine wpList_append_gen rfl (.tmp 123) (.tmp 125) 22 rfl X4.heap.size 48 iR _ 4 32 Tryd.underlying22 hiR hzR0 hzR1 hzR2 rfl (by omega) (.slice oT x cT) x (trpNews x t) rfl (some ⟨X8.heap.size, 0, none⟩) 1 1 [.int .i64 (B : Nat), .int .i64 (M : Nat), .int .i64 (f + e - r2), .int .i64 (f + e + r3)] rfl HOE.out (fun e9 => by cases e9) rfl HNW.out (by simp [Value.oneCell']) (by simp only [maxLen]; omega) (by omega) HTE.out.same.size ?_; intro vS wS hownS hgrowS; have hTG := HTE.out.grown HOE.out (Nat.le_refl _) hgrowS; clear hgrowS; obtain ⟨oV, cV, rfl, -⟩ := owns_form hownS; have HTG := Lib.hid hTG; have HOG := Lib.hid hownS; have d0 := hTG.zR.cell 3 (v := .slice oT x cT) rfl; have d1 := hTG.zR.lt; have d2 := hTG.zR.frozen 3; clear hTG hownS))
                  have ho8 := (Only.refl gR wS).setCell 3 (.slice oV (x + 1) cV)
                  have HTF := Lib.hid (HTG.out.only ho8 (HTG.out.zR.set 3 (.slice oV (x + 1) cV)) n3)
                  have HOF := Lib.hid (owns_off HOG.out ho8.but HTG.out.lr)
                  go_roundw
                  case rel => exact ⟨x + 1, j + 1 + 1 + 1 + 1, fun c' => if c' = x then ⟨(B : Nat), (M : Nat), f + e - r2, f + e + r3⟩ else t c', _, by omega, by go_num, by omega, (fun c hc => by
                      show TripOk i k F E (if c = x then ⟨(B : Nat), (M : Nat), f + e - r2, f + e + r3⟩ else t c)
                      by_cases hcx : c = x
                      · rw [if_pos hcx]
                        have h9 := HFE.out
                        unfold TripOk
                        dsimp only
                        rw [show ((B : Nat) : Int).toNat = B by omega, show ((M : Nat) : Int).toNat = M by omega, ← h9.1, ← h9.2]
                        omega
                      · rw [if_neg hcx]; exact HTO.out c (by omega)), (by have := HOF.out; rw [trpNews_put x t ⟨(B : Nat), (M : Nat), f + e - r2, f + e + r3⟩] at this; exact this), HTF.out⟩
                  case measure => simp [intOf]; omega
              · have hd3 : decide ((x : Int) < wrap64 (3 * (kn : Int))) = false := decide_eq_false hkm
                have g0 := HT.out.zR.cell 0 (v := .int .i64 (i : Nat)) rfl
                have g1 := HT.out.zR.cell 1 (v := .int .i64 (k : Nat)) rfl
                have g2 := HT.out.zR.cell 2 (v := .int .i64 (m : Nat)) rfl
                have g3 := HT.out.zR.cell 3 (v := .slice oT x cT) rfl
                have g4 := HT.out.zR.lt
                have Y10 := Lib.hid (HT.out.box HZ104.out HN4.out.2 HN4.out.1)
                have y0 := Y10.out.cell 0 (v := .int .i64 0) rfl
                have y1 := Y10.out.cell 1 (v := .int .i64 0) rfl
                have y2 := Y10.out.cell 2 (v := .int .i64 0) rfl
                have y3 := Y10.out.cell 3 (v := .slice none 0 0) rfl
                have y4 := Y10.out.lt
                have y5 := Y10.out.frozen 0
                have y6 := Y10.out.frozen 1
                have y7 := Y10.out.frozen 2
                have y8 := Y10.out.frozen 3
                go_wp2_with fail
                have zF := Lib.hid ((((Y10.out.set 0 (.int .i64 (i : Nat))).set 1 (.int .i64 (k : Nat))).set 2 (.int .i64 (m : Nat))).set 3 (.slice oT x cT))
                have hoF := Lib.hid (((((Only.refl (w.heap.size + 1) wr).setCell 0 (.int .i64 (i : Nat))).setCell 1 (.int .i64 (k : Nat))).setCell 2 (.int .i64 (m : Nat))).setCell 3 (.slice oT x cT))
                have v0 := zF.out.cell 0 (v := .int .i64 (i : Nat)) rfl
                have v1 := zF.out.cell 1 (v := .int .i64 (k : Nat)) rfl
                have v2 := zF.out.cell 2 (v := .int .i64 (m : Nat)) rfl
                have v3 := zF.out.cell 3 (v := .slice oT x cT) rfl
                clear g0 g1 g2 g3 g4 y0 y1 y2 y3 y5 y6 y7 y8
                obtain ⟨wz, hWZ⟩ : ∃ X, X = ((((wr.setCell ⟨w.heap.size + 1, 0, none⟩ (.int .i64 (i : Nat))).setCell ⟨w.heap.size + 1, 1, none⟩ (.int .i64 (k : Nat))).setCell ⟨w.heap.size + 1, 2, none⟩ (.int .i64 (m : Nat))).setCell ⟨w.heap.size + 1, 3, none⟩ (.slice oT x cT)) := ⟨_, rfl⟩
                rw [← hWZ] at zF hoF v0 v1 v2 v3 ⊢
                clear hWZ
                refine bodyPost_ret (v := .tuple #[.agg #[.int .i64 (i : Nat), .int .i64 (k : Nat), .int .i64 (m : Nat), .slice oT x cT], .slice oF i cF, .slice oE k cE, .int .i64 ((o : Int) - 1)]) (by simp [results, Tryd.results23, go_sem, v0, v1, v2, v3]) rfl ?_
                have hlow := HT.out.low HLW4.out hz hr
                have hrow := owns_but HOW.out hoF.out.but (fun b9 e9 e8 => by have := (HOW.out.lt b9 e9).1; have := HZ104.out.lt; omega)
                obtain ⟨oV, cV, e9, hst⟩ := owns_trps hrow
                cases e9
                refine ⟨⟨⟨(i : Nat), (k : Nat), (m : Nat), x, t⟩, F, E, (o : Int) - 1, oT, oF, oE, cT, cF, cE, i, k, rfl, ⟨by dsimp only; omega, by dsimp only; omega, by dsimp only; omega, by dsimp only; omega, by dsimp only; omega, fun b9 hb9 => HF.out b9 (by dsimp only at hb9; omega), fun m9 hm9 => HE.out m9 (by dsimp only at hm9; omega), fun c hc => HTO.out c hc⟩, rfl, rfl, hst, ints_only (HT.out.ints HIF4.out fun a ha => ⟨(HNF.out a ha).1, (HNF.out a ha).2.1⟩) hoF.out (fun a ha => (HNF.out a ha).2.2), ints_only (HT.out.ints HIE.out fun a ha => ⟨(HNE.out a ha).1, (HNE.out a ha).2.1⟩) hoF.out (fun a ha => (HNE.out a ha).2.2)⟩, hlow.trans (hoF.out.below (by omega))⟩
            · obtain rfl : x = 14 := by omega
              have hd1 : decide (14 < 14) = false := by simp
              have g0 := HT.out.zR.cell 0 (v := .int .i64 (i : Nat)) rfl
              have g1 := HT.out.zR.cell 1 (v := .int .i64 (k : Nat)) rfl
              have g2 := HT.out.zR.cell 2 (v := .int .i64 (m : Nat)) rfl
              have g3 := HT.out.zR.cell 3 (v := .slice oT 14 cT) rfl
              have g4 := HT.out.zR.lt
              have Y10 := Lib.hid (HT.out.box HZ104.out HN4.out.2 HN4.out.1)
              have y0 := Y10.out.cell 0 (v := .int .i64 0) rfl
              have y1 := Y10.out.cell 1 (v := .int .i64 0) rfl
              have y2 := Y10.out.cell 2 (v := .int .i64 0) rfl
              have y3 := Y10.out.cell 3 (v := .slice none 0 0) rfl
              have y4 := Y10.out.lt
              have y5 := Y10.out.frozen 0
              have y6 := Y10.out.frozen 1
              have y7 := Y10.out.frozen 2
              have y8 := Y10.out.frozen 3
              go_wp2_with fail
              have zF := Lib.hid ((((Y10.out.set 0 (.int .i64 (i : Nat))).set 1 (.int .i64 (k : Nat))).set 2 (.int .i64 (m : Nat))).set 3 (.slice oT 14 cT))
              have hoF := Lib.hid (((((Only.refl (w.heap.size + 1) wr).setCell 0 (.int .i64 (i : Nat))).setCell 1 (.int .i64 (k : Nat))).setCell 2 (.int .i64 (m : Nat))).setCell 3 (.slice oT 14 cT))
              have v0 := zF.out.cell 0 (v := .int .i64 (i : Nat)) rfl
              have v1 := zF.out.cell 1 (v := .int .i64 (k : Nat)) rfl
              have v2 := zF.out.cell 2 (v := .int .i64 (m : Nat)) rfl
              have v3 := zF.out.cell 3 (v := .slice oT 14 cT) rfl
              clear g0 g1 g2 g3 g4 y0 y1 y2 y3 y5 y6 y7 y8
              obtain ⟨wz, hWZ⟩ : ∃ X, X = ((((wr.setCell ⟨w.heap.size + 1, 0, none⟩ (.int .i64 (i : Nat))).setCell ⟨w.heap.size + 1, 1, none⟩ (.int .i64 (k : Nat))).setCell ⟨w.heap.size + 1, 2, none⟩ (.int .i64 (m : Nat))).setCell ⟨w.heap.size + 1, 3, none⟩ (.slice oT 14 cT)) := ⟨_, rfl⟩
              rw [← hWZ] at zF hoF v0 v1 v2 v3 ⊢
              clear hWZ
              refine bodyPost_ret (v := .tuple #[.agg #[.int .i64 (i : Nat), .int .i64 (k : Nat), .int .i64 (m : Nat), .slice oT 14 cT], .slice oF i cF, .slice oE k cE, .int .i64 ((o : Int) - 1)]) (by simp [results, Tryd.results23, go_sem, v0, v1, v2, v3]) rfl ?_
              have hlow := HT.out.low HLW4.out hz hr
              have hrow := owns_but HOW.out hoF.out.but (fun b9 e9 e8 => by have := (HOW.out.lt b9 e9).1; have := HZ104.out.lt; omega)
              obtain ⟨oV, cV, e9, hst⟩ := owns_trps hrow
              cases e9
              refine ⟨⟨⟨(i : Nat), (k : Nat), (m : Nat), 14, t⟩, F, E, (o : Int) - 1, oT, oF, oE, cT, cF, cE, i, k, rfl, ⟨by dsimp only; omega, by dsimp only; omega, by dsimp only; omega, by dsimp only; omega, by dsimp only; omega, fun b9 hb9 => HF.out b9 (by dsimp only at hb9; omega), fun m9 hm9 => HE.out m9 (by dsimp only at hm9; omega), fun c hc => HTO.out c hc⟩, rfl, rfl, hst, ints_only (HT.out.ints HIF4.out fun a ha => ⟨(HNF.out a ha).1, (HNF.out a ha).2.1⟩) hoF.out (fun a ha => (HNF.out a ha).2.2), ints_only (HT.out.ints HIE.out fun a ha => ⟨(HNE.out a ha).1, (HNE.out a ha).2.1⟩) hoF.out (fun a ha => (HNE.out a ha).2.2)⟩, hlow.trans (hoF.out.below (by omega))⟩
end Go.Proofs.YtldodmfmibeoiaaDoor
