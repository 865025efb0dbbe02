/- TopRing returns true. -/
import Derived.Test.YtlofopnjjeeehaaDoorT1
import Derived.Test.YtlofopnjjeeehaaDoorP30
import Derived.Test.YtlofopnjjeeehaaDoorP31
import Derived.Deep.DeepCutAuto
namespace Go.Proofs.YtlofopnjjeeehaaDoor
open Go.RowKit
theorem spanNews_put (i : Nat) (f : Nat → Bn.Spn) (v : Bn.Spn) : Bn.spanNews i f ++ [.int .i64 v.lo, .int .i64 v.hi] = Bn.spanNews (i + 1) (fun c => if c = i then v else f c) := by
  have h : ∀ n, n ≤ i → Bn.spanNews n (fun c => if c = i then v else f c) = Bn.spanNews n f := by
    intro n
    induction n with
    | zero => intro _; rfl
    | succ n ih =>
      intro hn
      have e := ih (by omega)
      unfold Bn.spanNews at e ⊢
      rw [Bn.pair_news_succ, Bn.pair_news_succ, e]
      dsimp only
      rw [if_neg (by omega)]
  have e := h i (Nat.le_refl _)
  unfold Bn.spanNews at e ⊢
  rw [Bn.pair_news_succ, e]
  dsimp only
  rw [if_pos rfl]
theorem owns_tq {gZ gR j : Nat} {cs : Array Value} {A B : World} {base e size n : Nat} {v : Value} {xs : List Value} (ho : A.ownsRow base e size v n xs) (h : TQ gZ gR j cs A B) (h1 : gZ < base) (h2 : gR < base) : B.ownsRow base e size v n xs := by
  refine ⟨ho.1, ?_⟩
  rcases ho.2 with hn | ⟨g, cap, cur, e1, hb, hg, r⟩
  · exact .inl hn
  · have hl := (Array.getElem?_eq_some_iff.1 hg).1
    exact .inr ⟨g, cap, cur, e1, hb, (h.same.block g hl ⟨hl, by omega, by omega⟩).trans hg, r⟩
theorem TQ.join {gZ gR j j' : Nat} {cs ds : Array Value} {W0 A B : World} (h : TQ gZ gR j cs W0 A) (k : TQ gZ gR j' ds A B) : TQ gZ gR j' ds W0 B :=
  ⟨h.same.trans ⟨k.same.os, k.same.tape, k.same.output, k.same.size, fun b hb hp => k.same.block b hb ⟨hb, hp.2.1, hp.2.2⟩⟩, k.zZ, k.zR, h.lz, h.lr⟩
/-- what is kept of the round and of the errors -/
structure Vr (w : World) (gR : Nat) (cs : Array Value) (oT : Option Addr) (n : Nat) (t : Nat → Trp) (oF : Option Addr) (nm : Nat) (E : Nat → Int) (W : World) : Prop where
  low : Below w.heap.size w W
  b : Box gR cs 29 W
  tr : TrpsAt W oT n t
  er : IntsAt W oF nm E
theorem Vr.on {w : World} {gR : Nat} {cs : Array Value} {oT : Option Addr} {n : Nat} {t : Nat → Trp} {oF : Option Addr} {nm : Nat} {E : Nat → Int} {W W' : World} (h : Vr w gR cs oT n t oF nm E W) (hb : Below W.heap.size W W') : Vr w gR cs oT n t oF nm E W' :=
  ⟨h.low.trans (hb.mono h.low.size), h.b.below hb, h.tr.mono hb, h.er.mono hb⟩
theorem Vr.cells {w : World} {gR : Nat} {x0 x1 x2 x3 : Value} {oT : Option Addr} {n : Nat} {t : Nat → Trp} {oF : Option Addr} {nm : Nat} {E : Nat → Int} {W : World} (h : Vr w gR #[x0, x1, x2, x3] oT n t oF nm E W) : W.cell? ⟨gR, 0, none⟩ = some x0 ∧ W.cell? ⟨gR, 1, none⟩ = some x1 ∧ W.cell? ⟨gR, 2, none⟩ = some x2 ∧ W.cell? ⟨gR, 3, none⟩ = some x3 ∧ gR < W.heap.size :=
  ⟨h.b.cell 0 rfl, h.b.cell 1 rfl, h.b.cell 2 rfl, h.b.cell 3 rfl, h.b.lt⟩
theorem owns_down {w : World} {base base' : Nat} {e : TypeId} {size : Nat} {v : Value} {n : Nat} {xs : List Value} (h : w.ownsRow base e size v n xs) (hb : base' ≤ base) : w.ownsRow base' e size v n xs :=
  ⟨h.1, h.2.imp id fun ⟨g, cap, cur, h1, h2, h3⟩ => ⟨g, cap, cur, h1, Nat.le_trans hb h2, h3⟩⟩
theorem tmod_bd {a b : Int} (hb : 0 < b) : -b < a.tmod b ∧ a.tmod b < b := by
  by_cases h : 0 ≤ a
  · rw [Int.tmod_eq_emod_of_nonneg h]
    have := Int.emod_nonneg a (show b ≠ 0 by omega)
    have := Int.emod_lt_of_pos a hb
    omega
  · have e : a.tmod b = -((-a).tmod b) := by rw [Int.neg_tmod, Int.neg_neg]
    rw [e, Int.tmod_eq_emod_of_nonneg (by omega)]
    have := Int.emod_nonneg (-a) (show b ≠ 0 by omega)
    have := Int.emod_lt_of_pos (-a) hb
    omega
set_option maxRecDepth 100000 in
set_option maxHeartbeats 40000000 in
theorem topRing_any (m : Nat) (wg tk : Int) (ka : Option Addr) (kn kc : Nat) (q : Nat → Nat) (w : World) (hT : TabAt 1 Lib.deBruijn64tab w) (h1 : 1 < w.heap.size) (hm : m < 256) (hwg : -128 ≤ wg ∧ wg ≤ 127) (htk : -128 ≤ tk ∧ tk ≤ 127) (hQ : U16sAt w ka kn q) (hkn2 : kn ≤ 9223372036854775807)
    (hAW : ∀ W : World, TabAt 1 Lib.deBruijn64tab W → 1 < W.heap.size → Calls Tryd.prog 4 #[] W fun e w' => e = .returned (.bool true) ∧ Below W.heap.size W w') :
    Calls Tryd.prog 3 #[.int .u8 (m : Nat), .int .i8 wg, .int .i8 tk, .slice ka kn kc] w fun e w' => e = .returned (.bool true) ∧ Below w.heap.size w w' := by
  have HTAB := Lib.hid hT
  have HQ := Lib.hid hQ
  have HAW := Lib.hid hAW
  clear hT hQ hAW
  go_enter Tryd.func3, Tryd.ntmps3
  go_upto_region 1 with fail
  have hbk := below_alloc1 w (.cells #[.slice ka kn kc] 23)
  have zK := Box.new (g := w.heap.size) #[.slice ka kn kc] 23 w rfl
  obtain ⟨X0, hW⟩ : ∃ X, X = w.alloc (.cells #[.slice ka kn kc] 23) := ⟨_, rfl⟩
  rw [← hW] at hbk zK ⊢
  have HS0 := Lib.hid (show X0.heap.size = w.heap.size + 1 by rw [hW]; simp)
  clear hW
  obtain ⟨kb, hG3⟩ : ∃ G, G = w.heap.size := ⟨_, rfl⟩
  rw [← hG3] at zK ⊢
  have HG3 := Lib.hid hG3
  clear hG3
  have k0 := zK.cell 0 (v := .slice ka kn kc) rfl
  have k1 := zK.lt
  by_cases hk0 : kn = 0
  · have hd : ((kn : Int) == 0) = true := by subst hk0; rfl
    go_wp2_with fail
    refine (HAW.out _ (tab_below HTAB.out h1 hbk) (Nat.lt_of_lt_of_le h1 hbk.size)).mono ?_
    rintro e X1 ⟨rfl, hb⟩
    have hbz := hbk.trans (hb.mono hbk.size)
    go_wp2_with fail
    go_ret
    exact ⟨rfl, hbz⟩
  have hdk : ((kn : Int) == 0) = false := by simp; omega
  have HQL := Lib.hid (show ∀ a, ka = some a → a.block < w.heap.size from fun a ha => by
    obtain ⟨-, qb, qo, e, hlt, -⟩ := HQ.out 0 (by omega)
    rw [ha] at e
    cases e
    exact hlt)
  obtain ⟨nm, hnm⟩ : ∃ n, n = 1 + m % 3 := ⟨_, rfl⟩
  have hm1 : 1 ≤ nm := by omega
  have hm2 : nm ≤ 3 := by omega
  have e1 : (1 : Int) + (m : Int).tmod 3 = (nm : Int) := by rw [Int.tmod_eq_emod_of_nonneg (by omega)]; omega
  have e1' : (1 : Int) + (m : Int) % 3 = (nm : Int) := by omega
  clear hnm
  go_upto_region 5 with fail
  have hbz := below_alloc1 X0 (.cells #[.int .i64 0] 3)
  have zZ := Box.new (g := X0.heap.size) #[.int .i64 ((0 : Nat) : Int)] 3 X0 rfl
  obtain ⟨X1, hW⟩ : ∃ X, X = X0.alloc (.cells #[.int .i64 0] 3) := ⟨_, rfl⟩
  have zK1 := zK.below hbz
  have HS1 := Lib.hid (show X1.heap.size = w.heap.size + 2 by rw [hW]; simp [HS0.out])
  have hb1 := hbk.trans (hbz.mono hbk.size)
  rw [show X0.alloc (.cells #[.int .i64 ((0 : Nat) : Int)] 3) = X1 from hW.symm] at zZ
  rw [← hW] at hb1 zK1 ⊢
  obtain ⟨gZ, hG4⟩ : ∃ G, G = X0.heap.size := ⟨_, rfl⟩
  rw [← hG4] at zZ ⊢
  have HG4 := Lib.hid (show gZ = w.heap.size + 1 by rw [hG4]; exact HS0.out)
  clear hW k0 k1 hbz hbk zK hdk hG4
  have n1 : kb ≠ gZ := by have := HG3.out; have := HG4.out; omega
  have HDR0 := Lib.hid (draw_any 4 gZ kb 0 ka kn kc q X1 (by omega) (by omega) (by omega) hkn2 zZ zK1 n1 (fun i hi => (HQ.out i hi).imp_right fun ⟨b9, o9, q1, q2, q3⟩ => ⟨b9, o9, q1, Nat.lt_of_lt_of_le q2 hb1.size, (hb1.cell (p := ⟨b9, o9 + i, none⟩) q2).trans q3⟩) (fun a ha => by have := HQL.out a ha; have := HG4.out; omega))
  go_wp2_with fail
  refine HDR0.out.mono ?_
  rintro e X2 ⟨⟨rr, rfl, p0, p1⟩, hz9⟩
  obtain ⟨nb, hnb⟩ : ∃ n : Nat, (n : Int) = 1 + rr := ⟨(1 + rr).toNat, by omega⟩
  have hn1 : 1 ≤ nb := by omega
  have hn2 : nb ≤ 4 := by omega
  have hb2 : Below w.heap.size w X2 := hb1.trans (hz9.below (by have := HG4.out; omega) (by have := HS1.out; omega))
  have zZ2 := hz9.box
  have zK2 := hz9.old zK1 n1
  have HS2 := Lib.hid hz9.size
  have e2 : (1 : Int) + rr = (nb : Int) := by omega
  have e2' : rr + (1 : Int) = (nb : Int) := by omega
  have hb0 : (nb : Int) ≤ 4 := by omega
  clear hz9 zZ zK1 HDR0 hb1 hnb
  go_upto_region 6 with fail
  have hbr := below_alloc1 X2 (.cells #[.int .i64 (nb : Nat), .int .i64 (nm : Nat), .int .i64 0, .slice none 0 0] 29)
  have zR := Box.new (g := X2.heap.size) #[.int .i64 (nb : Nat), .int .i64 (nm : Nat), .int .i64 0, .slice none 0 0] 29 X2 rfl
  have HT0 := Lib.hid (show TQ gZ X2.heap.size 1 #[.int .i64 (nb : Nat), .int .i64 (nm : Nat), .int .i64 0, .slice none 0 0] (X2.alloc (.cells #[.int .i64 (nb : Nat), .int .i64 (nm : Nat), .int .i64 0, .slice none 0 0] 29)) (X2.alloc (.cells #[.int .i64 (nb : Nat), .int .i64 (nm : Nat), .int .i64 0, .slice none 0 0] 29)) from TQ.start (zZ2.below hbr) zR)
  have HLW := Lib.hid (hb2.trans (hbr.mono hb2.size))
  have HZ9 := Lib.hid (zK2.below hbr)
  have HG := Lib.hid (show w.heap.size + 2 ≤ X2.heap.size by have := HS1.out; have := HS2.out; omega)
  obtain ⟨gR, hG⟩ : ∃ G, G = X2.heap.size := ⟨_, rfl⟩
  obtain ⟨X3, hW⟩ : ∃ X, X = X2.alloc (.cells #[.int .i64 (nb : Nat), .int .i64 (nm : Nat), .int .i64 0, .slice none 0 0] 29) := ⟨_, rfl⟩
  rw [← hG, ← hW] at HT0
  rw [← hG] at HG
  rw [← hW] at HLW HZ9 ⊢
  rw [← hG] at ⊢
  have hz : w.heap.size ≤ gZ := by have := HG4.out; omega
  have hr : w.heap.size ≤ gR := by have := HG.out; omega
  have n2 : kb ≠ gR := by have := HG.out; have := HG3.out; omega
  have n3 : gR ≠ gZ := by have := HG.out; have := HG4.out; omega
  clear hW hG hbr zR zZ2 zK2 hb2 HS0 HS1 HS2 e1 e1' e2 e2' p0 p1 hb0 HG3 HG4 HG
  have HDR := Lib.hid (fun (W0 A : World) (n : Int) (j : Nat) (cs : Array Value) (hl : Below w.heap.size w W0) (hk : Box kb #[.slice ka kn kc] 23 W0) (hT : TQ gZ gR j cs W0 A) (h : 1 ≤ n ∧ n ≤ 1000) (hj : j ≤ 1000000) => draw_tq n gZ gR kb j ka kn kc q cs w W0 A hT hl hz hr hk n1 n2 n3 HQ.out HQL.out h hj (Nat.pos_of_ne_zero hk0) hkn2)
  obtain ⟨iR, hiR, hzR0, hzR1, hzR2⟩ := info_parts (P := Tryd.prog) (e := 3) (z := .int .i64 0) (size := 1) (bytes := 8) (by kernel_rfl)
  go_wp2_with fail
  go_loopw [12, 13] (fun v12 v13 wr => ∃ (i : Nat) (E : Nat → Int), i ≤ nm ∧ v13 = .int .i64 (i : Nat) ∧ (∀ c, c < i → -400 ≤ E c ∧ E c ≤ 400) ∧ wr.ownsRow X3.heap.size 3 1 v12 i (intNews i E) ∧ TQ gZ gR (1 + i) #[.int .i64 (nb : Nat), .int .i64 (nm : Nat), .int .i64 0, .slice none 0 0] X3 wr) (fun _ v13 _ => nm - (intOf v13).toNat)
  case atStart => exact ⟨0, fun _ => 0, Nat.zero_le _, rfl, (fun c hc => by omega), owns_none, HT0.out⟩
  case round =>
    obtain ⟨i, E, hi, rfl, hE, hown, hT⟩ := hrel
    obtain ⟨oS, cS, rfl, -⟩ := owns_form hown
    have HT := Lib.hid hT
    have HE := Lib.hid hE
    have HOW := Lib.hid hown
    have r0 := hT.zR.cell 0 (v := .int .i64 (nb : Nat)) rfl
    have r1 := hT.zR.cell 1 (v := .int .i64 (nm : Nat)) rfl
    have rl := hT.zR.lt
    clear hT hE hown HT0
    by_cases hin : i < nm
    · have hd1 : decide (i < nm) = true := decide_eq_true hin
      have hd2 : decide ((i : Int) < (nm : Int)) = true := decide_eq_true (by omega)
      go_wp2_with fail
      refine (HDR.out X3 wr 801 (1 + i) _ HLW.out HZ9.out HT.out (by omega) (by omega)).mono ?_
      rintro e Y2 ⟨⟨rr9, rfl, p0, p1⟩, hz9, hT2⟩
      have HO2 := Lib.hid ((owns_off HOW.out hz9.but HT.out.lz).alloc (.cells #[.int .i64 (rr9 - 400)] 3))
      have HT2 := Lib.hid (hT2.on (below_alloc1 Y2 (.cells #[.int .i64 (rr9 - 400)] 3)))
      clear hz9 hT2 HT HOW r0 r1 rl hd1 hd2
      go_wp2_with (at_builtin; refine wpList_append_gen rfl (.tmp 54) (.tmp 58) _ rfl X3.heap.size 3 iR _ 1 8 Tryd.underlying30 hiR hzR0 hzR1 hzR2 rfl (by omega) (.slice oS i cS) i (intNews i E) rfl (some ⟨Y2.heap.size, 0, none⟩) 1 1 [.int .i64 (rr9 - 400)] rfl HO2.out (fun e9 => by cases e9) rfl (fun ad9 e9 j9 u9 hu9 => by cases e9; exact news_blk1 (e := 3) (heap_new rfl) hu9) (by simp [Value.oneCell']) (by simp only [maxLen]; omega) (by omega) HT2.out.same.size ?_; intro vS wS hownS hgrowS)
      have HTS := Lib.hid (HT2.out.grown HO2.out (Nat.le_refl _) hgrowS)
      have HOS := Lib.hid hownS
      clear hownS hgrowS HO2 HT2
      go_roundw
      case rel => exact ⟨i + 1, fun c => if c = i then (rr9 - 400) else E c, by omega, by go_num, (fun c hc => by
        show -400 ≤ (if c = i then (rr9 - 400) else E c) ∧ (if c = i then (rr9 - 400) else E c) ≤ 400
        by_cases hck : c = i
        · rw [if_pos hck]; omega
        · rw [if_neg hck]; exact HE.out c (by omega)), (by have := HOS.out; rw [intNews_put i E (rr9 - 400)] at this; exact this), (by have := HTS.out; rw [show 1 + (i + 1) = 1 + i + 1 by omega]; exact this)⟩
      case measure => simp [intOf]; omega
    · obtain rfl : nm = i := by omega
      have hd1 : decide (nm < nm) = false := by simp
      have hd2 : decide ((nm : Int) < (nm : Int)) = false := by simp
      obtain ⟨oF, cF9, e9, hIF, hbF⟩ := owns_ints HOW.out
      cases e9
      have HIF := Lib.hid hIF
      have HNF := Lib.hid (show ∀ a, oS = some a → a.block ≠ gZ ∧ a.block ≠ gR from fun a ha => by have := hbF a ha; have := HT.out.lz; have := HT.out.lr; omega)
      have HT3 := Lib.hid (TQ.start HT.out.zZ HT.out.zR)
      have HLW3 := Lib.hid (HT.out.low HLW.out hz hr)
      have HZ93 := Lib.hid (HT.out.box HZ9.out n1 n2)
      obtain ⟨oF, hOF⟩ : ∃ y, y = oS := ⟨_, rfl⟩
      obtain ⟨cF, hCF⟩ : ∃ y, y = cS := ⟨_, rfl⟩
      rw [← hOF] at HIF HNF ⊢
      rw [← hCF]
      clear hIF hbF HT HOW HLW HZ9 hOF hCF
      obtain ⟨X4, hX4⟩ : ∃ X, X = wr := ⟨_, rfl⟩
      rw [← hX4] at HIF HT3 HLW3 HZ93 r0 r1 rl ⊢
      clear hX4
      obtain ⟨o, ho⟩ : ∃ o, o = wg.tmod (nb : Int) := ⟨_, rfl⟩
      have ho2 : wg.tmod (nb : Int) = o := ho.symm
      have ho1 := tmod_bd (a := wg) (b := nb) (by omega)
      rw [ho2] at ho1
      have hnz : (nb : Int) ≠ 0 := by omega
      have hnz2 : ((nb : Int) == 0) = false := by simpa using hnz
      clear ho
      go_upto_region 11 with fail
      go_cut [14] (fun s14 wx => ∃ off : Int, s14 = .int .i64 off ∧ -1 ≤ off ∧ off < nb ∧ X4 = wx)
      case first =>
        go_wp2_with fail
        go_meet
        exact ⟨max (-1) o, rfl, by omega, by omega, rfl⟩
      case rest =>
        obtain ⟨off, rfl, o1, o2, rfl⟩ := hcut
        clear ho2 ho1 hnz hnz2 o
        obtain ⟨iT, hiT, hzT0, hzT1, hzT2⟩ := info_parts (P := Tryd.prog) (e := 45) (z := .agg #[.int .i64 0, .int .i64 0, .int .i64 0, .int .i64 0]) (size := 4) (bytes := 32) (by kernel_rfl)
        obtain ⟨iS, hiS, hzS0, hzS1, hzS2⟩ := info_parts (P := Tryd.prog) (e := 35) (z := .agg #[.int .i64 0, .int .i64 0]) (size := 2) (bytes := 16) (by kernel_rfl)
        clear iR hiR hzR0 hzR1 hzR2
        go_wp2_with fail
        clear r0 r1 rl hd1 hd2
        go_loopw [15] (fun v15 wr => ∃ (b j : Nat) (t : Nat → Trp) (vT : Value), b ≤ nb ∧ v15 = .int .i64 (b : Nat) ∧ j ≤ 4 + 9 * b ∧ wr.ownsRow X4.heap.size 45 4 vT (b * nm) (trpNews (b * nm) t) ∧ Ring nb nm (b * nm) t E off tk ∧ TQ gZ gR j #[.int .i64 (nb : Nat), .int .i64 (nm : Nat), .int .i64 0, vT] X4 wr) (fun v15 _ => nb - (intOf v15).toNat)
        case atStart => exact ⟨0, 1 + nm, fun _ => ⟨0, 0, 0, 0⟩, .slice none 0 0, Nat.zero_le _, rfl, by omega, by rw [Nat.zero_mul]; exact owns_none, by rw [Nat.zero_mul]; exact Ring.start _ _ _ _ _ _, HT3.out⟩
        case round =>
          obtain ⟨b, j, t, vT, hb9, rfl, hj, hown, hRG, hT⟩ := hrel
          obtain ⟨oT, cT, rfl, -⟩ := owns_form hown
          have HT := Lib.hid hT
          have HRG := Lib.hid hRG
          have HOW := Lib.hid hown
          have r0 := hT.zR.cell 0 (v := .int .i64 (nb : Nat)) rfl
          have rl := hT.zR.lt
          have HT3' := Lib.hid (show gZ < X4.heap.size ∧ gR < X4.heap.size from ⟨hT.lz, hT.lr⟩)
          clear hT hRG hown HT3
          by_cases hin : b < nb
          · have hd1 : decide (b < nb) = true := decide_eq_true hin
            have hd2 : decide ((b : Int) < (nb : Int)) = true := decide_eq_true (by omega)
            as_aux_lemma =>
              go_wp2_with fail
              refine (HDR.out X4 wr 50 j _ HLW3.out HZ93.out HT.out (by omega) (by omega)).mono ?_
              rintro e Y1 ⟨⟨kk, rfl, p0, p1⟩, hz9, hT2⟩
              have HO2 := Lib.hid (owns_off HOW.out hz9.but HT.out.lz)
              have HT2 := Lib.hid hT2
              obtain ⟨k, hk⟩ : ∃ k, k = 1 + kk := ⟨_, rfl⟩
              have hk1 : 1 ≤ k := by omega
              have hk2 : k ≤ 50 := by omega
              have e3 : 1 + kk = k := hk.symm
              have e3' : kk + 1 = k := by omega
              clear hz9 hT2 HT HOW r0 rl hd1 hd2 hk
              obtain ⟨M, hM⟩ : ∃ M, M = 3 * k * tk := ⟨_, rfl⟩
              have hM1 : -128 * (3 * k) ≤ M := by rw [hM, Int.mul_comm (3 * k) tk]; exact Int.mul_le_mul_of_nonneg_right htk.1 (by omega)
              have hM2 : M ≤ 127 * (3 * k) := by rw [hM, Int.mul_comm (3 * k) tk]; exact Int.mul_le_mul_of_nonneg_right htk.2 (by omega)
              have hM0 : tk = 0 → M = 0 := fun h => by rw [hM, h, Int.mul_zero]
              have e4 : 3 * k * tk = M := hM.symm
              have HM0 := Lib.hid hM0
              clear hM hM0
              go_upto_if 80 with fail
              go_cut [18] (fun s18 wx => ∃ T : Int, s18 = .int .i64 T ∧ (9616 * k ≤ T ∧ T ≤ 10384 * k) ∧ ((b : Int) ≠ off ∨ tk = 0 → T = 10000 * k) ∧ Y1 = wx)
              case first =>
                by_cases hbo : (b : Int) = off
                · have hd : ((b : Int) == off) = true := by simpa using hbo
                  have hbo := Lib.hid hbo
                  go_wp2_with fail
                  go_meet
                  exact ⟨10000 * k + M, rfl, by omega, fun h9 => by
                    rcases h9 with h9 | h9
                    · exact absurd hbo.out h9
                    · have := HM0.out h9; omega, rfl⟩
                · have hd : ((b : Int) == off) = false := by simpa using hbo
                  have hbo := Lib.hid hbo
                  go_wp2_with fail
                  go_meet
                  exact ⟨10000 * k, rfl, by omega, fun _ => rfl, rfl⟩
              case rest =>
                obtain ⟨T, rfl, hT1, hT0, rfl⟩ := hcut
                have HT0 := Lib.hid hT0
                clear hT0 HM0 e3 e3' e4 hM1 hM2 p0 p1
                go_wp2_with fail
                have zM := Box.new (g := Y1.heap.size) #[.int .i64 0, .int .i64 1, .int .i64 1, .int .i64 (1 + T)] 32 Y1 rfl
                have hOa := owns_below HO2.out (below_alloc1 Y1 (.cells #[.int .i64 0, .int .i64 1, .int .i64 1, .int .i64 (1 + T)] 32))
                have hTa := HT2.out.on (below_alloc1 Y1 (.cells #[.int .i64 0, .int .i64 1, .int .i64 1, .int .i64 (1 + T)] 32))
                have gm1 : gZ < Y1.heap.size := HT2.out.zZ.lt
                have gm2 : gR < Y1.heap.size := HT2.out.zR.lt
                obtain ⟨gM, hG⟩ : ∃ G, G = Y1.heap.size := ⟨_, rfl⟩
                obtain ⟨Y2, hW⟩ : ∃ X, X = Y1.alloc (.cells #[.int .i64 0, .int .i64 1, .int .i64 1, .int .i64 (1 + T)] 32) := ⟨_, rfl⟩
                rw [← hW] at zM hOa hTa ⊢
                rw [← hG] at zM gm1 gm2 ⊢
                have nM1 : gM ≠ gZ := by omega
                have nM2 : gM ≠ gR := by omega
                clear hW hG HO2 HT2
                refine (HDR.out X4 Y2 20 (j + 1) _ HLW3.out HZ93.out hTa (by omega) (by omega)).mono ?_
                rintro e Y3 ⟨⟨d1, rfl, p0, p1⟩, hz9, hTb⟩
                have hOb := owns_off hOa hz9.but hTa.lz
                have zM3 := hz9.old zM nM1
                clear hz9 hTa hOa zM
                go_wp2_with fail
                refine (HDR.out X4 Y3 20 (j + 1 + 1) _ HLW3.out HZ93.out hTb (by omega) (by omega)).mono ?_
                rintro e Y4 ⟨⟨d2, rfl, p2, p3⟩, hz9, hTc⟩
                have HO4 := Lib.hid (owns_off hOb hz9.but hTb.lz)
                have HT4 := Lib.hid hTc
                have ZM4 := Lib.hid (hz9.old zM3 nM1)
                clear hz9 hTb hOb hTc zM3
                go_upto_region 21 with fail
                have zB := Box.new (g := Y4.heap.size) #[.bool false, .slice (some ⟨gM, 0, none⟩) 2 2, .int .i64 d1, .int .i64 0, .int .i64 0, .int .i64 0, .int .i64 d2] 37 Y4 rfl
                have hbw := below_alloc1 Y4 (.cells #[.bool false, .slice (some ⟨gM, 0, none⟩) 2 2, .int .i64 d1, .int .i64 0, .int .i64 0, .int .i64 0, .int .i64 d2] 37)
                have HO5 := Lib.hid (owns_below HO4.out hbw)
                have HT5 := Lib.hid (HT4.out.on hbw)
                have ZM5 := Lib.hid (ZM4.out.below hbw)
                have gm3 : gZ < Y4.heap.size := HT4.out.zZ.lt
                have gm4 : gR < Y4.heap.size := HT4.out.zR.lt
                obtain ⟨gB, hG⟩ : ∃ G, G = Y4.heap.size := ⟨_, rfl⟩
                obtain ⟨Y5, hW⟩ : ∃ X, X = Y4.alloc (.cells #[.bool false, .slice (some ⟨gM, 0, none⟩) 2 2, .int .i64 d1, .int .i64 0, .int .i64 0, .int .i64 0, .int .i64 d2] 37) := ⟨_, rfl⟩
                rw [← hW] at zB HO5 HT5 ZM5 ⊢
                rw [← hG] at zB gm3 gm4 ⊢
                have nB1 : gB ≠ gZ := by omega
                have nB2 : gB ≠ gR := by omega
                have ZB5 := Lib.hid zB
                clear hW hG zB hbw HO4 HT4 ZM4 gm1 gm2 gm3 gm4
                have HLY := Lib.hid (HT5.out.low HLW3.out hz hr)
                have HKY := Lib.hid (HT5.out.box HZ93.out n1 n2)
                have HIY := Lib.hid (HT5.out.ints HIF.out HNF.out)
                have HTY := Lib.hid (TQ.start HT5.out.zZ HT5.out.zR)
                go_wp2_with fail
                go_loopw [20, 21] (fun v20 v21 wr => ∃ (i : Nat) (f : Nat → Bn.Spn), i ≤ nm ∧ v21 = .int .i64 (i : Nat) ∧ (∀ c, c < i → ∃ a1 a2 : Int, (0 ≤ a1 ∧ a1 ≤ 29) ∧ (0 ≤ a2 ∧ a2 ≤ 29) ∧ f c = ⟨k * (10000 + E c) - a1, k * (10000 + E c) + a2⟩) ∧ wr.ownsRow Y5.heap.size 35 2 v20 i (Bn.spanNews i f) ∧ TQ gZ gR (j + 3 + 2 * i) #[.int .i64 (nb : Nat), .int .i64 (nm : Nat), .int .i64 0, .slice oT (b * nm) cT] Y5 wr) (fun _ v21 _ => nm - (intOf v21).toNat)
                case atStart => exact ⟨0, fun _ => ⟨0, 0⟩, Nat.zero_le _, rfl, (fun c hc => by omega), owns_none, HTY.out⟩
                case round =>
                  obtain ⟨i, f, hi, rfl, hf, hown, hT⟩ := hrel
                  obtain ⟨oS, cS, rfl, -⟩ := owns_form hown
                  have HT := Lib.hid hT
                  have HF := Lib.hid hf
                  have HOW := Lib.hid hown
                  have r1 := hT.zR.cell 1 (v := .int .i64 (nm : Nat)) rfl
                  have rl := hT.zR.lt
                  clear hT hf hown HTY
                  by_cases hin9 : i < nm
                  · have hd1 : decide (i < nm) = true := decide_eq_true hin9
                    have hd2 : decide ((i : Int) < (nm : Int)) = true := decide_eq_true (by omega)
                    obtain ⟨fb, fo, e9, hfl, fc⟩ := (HT.out.ints HIY.out HNF.out) i hin9
                    have HEC := Lib.hid (HE.out i hin9)
                    obtain ⟨ee, hee⟩ : ∃ y, y = E i := ⟨_, rfl⟩
                    have HEE := Lib.hid hee
                    rw [← hee] at fc HEC
                    clear hee
                    have hx0 : (0 : Int) ≤ (i : Int) := by omega
                    have hx1 : (i : Int) < (nm : Int) := by omega
                    obtain ⟨N, hN⟩ : ∃ N, N = k * (10000 + ee) := ⟨_, rfl⟩
                    have hN1 : k * 9600 ≤ N := by rw [hN]; exact Int.mul_le_mul_of_nonneg_left (by have := HEC.out; omega) (by omega)
                    have hN2 : N ≤ k * 10400 := by rw [hN]; exact Int.mul_le_mul_of_nonneg_left (by have := HEC.out; omega) (by omega)
                    have e5 : k * (10000 + ee) = N := hN.symm
                    have e5' : k * (ee + 10000) = N := by rw [hN, Int.add_comm]
                    have he1 : -400 ≤ ee := HEC.out.1
                    have he2 : ee ≤ 400 := HEC.out.2
                    have HNN := Lib.hid hN
                    clear hN
                    subst e9
                    go_wp2_with fail
                    refine (HDR.out Y5 wr 30 (j + 3 + 2 * i) _ HLY.out HKY.out HT.out (by omega) (by omega)).mono ?_
                    rintro e Z1 ⟨⟨a1, rfl, q0, q1⟩, hz9, hTa⟩
                    have HOa := Lib.hid (owns_off HOW.out hz9.but HT.out.lz)
                    have HTa := Lib.hid hTa
                    clear hz9 hTa HT HOW r1 rl hd1 hd2 fc hfl e5 e5'
                    go_wp2_with fail
                    refine (HDR.out Y5 Z1 30 (j + 3 + 2 * i + 1) _ HLY.out HKY.out HTa.out (by omega) (by omega)).mono ?_
                    rintro e Z2 ⟨⟨a2, rfl, q2, q3⟩, hz9, hTb⟩
                    have HO2 := Lib.hid ((owns_off HOa.out hz9.but HTa.out.lz).alloc (.cells #[.int .i64 (N - a1), .int .i64 (N + a2)] 35))
                    have HT2 := Lib.hid (hTb.on (below_alloc1 Z2 (.cells #[.int .i64 (N - a1), .int .i64 (N + a2)] 35)))
                    clear hz9 hTb HTa HOa
                    go_wp2_with (at_builtin; refine wpList_append_gen rfl (.tmp 112) (.tmp 122) _ rfl Y5.heap.size 35 iS _ 2 16 Tryd.underlying38 hiS hzS0 hzS1 hzS2 rfl (by omega) (.slice oS i cS) i (Bn.spanNews i f) rfl (some ⟨Z2.heap.size, 0, none⟩) 1 1 [.int .i64 (N - a1), .int .i64 (N + a2)] rfl HO2.out (fun e9 => by cases e9) rfl (fun ad9 e9 j9 u9 hu9 => by cases e9; exact Bn.news_blk2 (e := 35) (heap_new rfl) hu9) (by simp [Value.oneCell']) (by simp only [maxLen]; omega) (by omega) HT2.out.same.size ?_; intro vS wS hownS hgrowS)
                    have HTS := Lib.hid (HT2.out.grown HO2.out (Nat.le_refl _) hgrowS)
                    have HOS := Lib.hid hownS
                    clear hownS hgrowS HO2 HT2
                    go_roundw
                    case rel => exact ⟨i + 1, fun c => if c = i then ⟨N - a1, N + a2⟩ else f c, by omega, by go_num, (fun c hc => by
                      dsimp only
                      by_cases hck : c = i
                      · rw [if_pos hck, hck, ← HEE.out, ← HNN.out]
                        exact ⟨a1, a2, by omega, by omega, rfl⟩
                      · rw [if_neg hck]
                        exact HF.out c (by omega)), (by have := HOS.out; rw [spanNews_put i f ⟨N - a1, N + a2⟩] at this; exact this), (by have := HTS.out; rw [show j + 3 + 2 * (i + 1) = j + 3 + 2 * i + 1 + 1 by omega]; exact this)⟩
                    case measure => simp [intOf]; omega
                  · obtain rfl : nm = i := by omega
                    have hd1 : decide (nm < nm) = false := by simp
                    have hd2 : decide ((nm : Int) < (nm : Int)) = false := by simp
                    obtain ⟨oU, cU, e9, hSP, -⟩ := Bn.owns_spans HOW.out
                    cases e9
                    have HZB := Lib.hid (HT.out.box ZB5.out nB1 nB2)
                    have HZM := Lib.hid (HT.out.box ZM5.out nM1 nM2)
                    have HTX := Lib.hid (HT5.out.join HT.out)
                    have HOX := Lib.hid (owns_tq HO5.out HT.out HT3'.out.1 HT3'.out.2)
                    have HER : Hid (Calls Tryd.prog 6 #[.agg #[.bool false, .slice (some ⟨gM, 0, none⟩) 2 2, .int .i64 d1, .int .i64 0, .int .i64 0, .int .i64 0, .int .i64 d2], .agg #[.int .i64 0, .int .i64 0, .int .i64 1, .int .i64 1, .int .i64 0, .int .i64 0], .slice oS nm cS] wr fun e w' => ∃ oo cp, e = .returned (.tuple #[.slice oo nm cp, .int .i64 0]) ∧ (∃ B, wr.heap.size ≤ B ∧ w'.ownsRow B 35 2 (.slice oo nm cp) nm (Bn.spanNews nm (fun i => Bn.errR ⟨T - 2 * d1, T + 2 * d1 + d2⟩ (f i)))) ∧ Below wr.heap.size wr w') := Lib.hid (by
                      have h9 := Bn.Errors_any (ringB T d1 d2) ringC (some ⟨gM, 0, none⟩) 2 oS nm cS f wr (show 2 ≤ 1000000 by decide) (Nat.le_refl 2) (fun i hi => by
                        have hi : i < 2 := hi
                        obtain rfl | rfl : i = 0 ∨ i = 1 := by omega
                        · exact ⟨_, 0, rfl, HZM.out.lt, HZM.out.cell 0 rfl, HZM.out.cell 1 rfl⟩
                        · exact ⟨_, 0, rfl, HZM.out.lt, HZM.out.cell 2 rfl, HZM.out.cell 3 rfl⟩) (by omega) hSP
                      rw [ring_test (by omega) (by omega) (by omega) (by omega) (fun i hi => by
                        obtain ⟨a1, a2, h1, h2, e9⟩ := HF.out i hi
                        obtain ⟨N, hN⟩ : ∃ N, N = k * (10000 + E i) := ⟨_, rfl⟩
                        have hE9 := HE.out i hi
                        have hN1 : k * 9600 ≤ N := by rw [hN]; exact Int.mul_le_mul_of_nonneg_left (by omega) (by omega)
                        have hN2 : N ≤ k * 10400 := by rw [hN]; exact Int.mul_le_mul_of_nonneg_left (by omega) (by omega)
                        rw [e9, ← hN]
                        dsimp only
                        omega)] at h9
                      exact h9)
                    have HQF := Lib.hid (show ∀ i, i < nm → (-100000 ≤ (Bn.errR ⟨T - 2 * d1, T + 2 * d1 + d2⟩ (f i)).lo ∧ (Bn.errR ⟨T - 2 * d1, T + 2 * d1 + d2⟩ (f i)).lo ≤ (Bn.errR ⟨T - 2 * d1, T + 2 * d1 + d2⟩ (f i)).hi ∧ (Bn.errR ⟨T - 2 * d1, T + 2 * d1 + d2⟩ (f i)).hi ≤ 100000) ∧ ((b : Int) ≠ off ∨ tk = 0 → (Bn.errR ⟨T - 2 * d1, T + 2 * d1 + d2⟩ (f i)).lo ≤ E i ∧ E i ≤ (Bn.errR ⟨T - 2 * d1, T + 2 * d1 + d2⟩ (f i)).hi) from fun i hi => by
                      obtain ⟨a1, a2, h1, h2, e9⟩ := HF.out i hi
                      rw [e9]
                      have h3 := ring_err (k := k) (E := E i) (T := T) (o := d1) (h := d2) (d1 := a1) (d2 := a2) ⟨hk1, hk2⟩ (HE.out i hi) hT1 (by omega) (by omega) h1 h2
                      exact ⟨h3.1, fun h9 => h3.2 (HT0.out h9)⟩)
                    have HJ := Lib.hid (show j + 3 + 2 * nm ≤ 4 + 9 * (b + 1) by omega)
                    obtain ⟨J, hJ⟩ : ∃ J, J = j + 3 + 2 * nm := ⟨_, rfl⟩
                    rw [← hJ] at HJ HTX
                    obtain ⟨F, hFF⟩ : ∃ F, F = fun i => Bn.errR ⟨T - 2 * d1, T + 2 * d1 + d2⟩ (f i) := ⟨_, rfl⟩
                    rw [← hFF] at HER
                    replace HQF : Hid (∀ i, i < nm → (-100000 ≤ (F i).lo ∧ (F i).lo ≤ (F i).hi ∧ (F i).hi ≤ 100000) ∧ ((b : Int) ≠ off ∨ tk = 0 → (F i).lo ≤ E i ∧ E i ≤ (F i).hi)) := Lib.hid (by rw [hFF]; exact HQF.out)
                    have b0 := HZB.out.cell 0 (v := .bool false) rfl
                    have b1 := HZB.out.cell 1 (v := .slice (some ⟨gM, 0, none⟩) 2 2) rfl
                    have b2 := HZB.out.cell 2 (v := .int .i64 d1) rfl
                    have b3 := HZB.out.cell 3 (v := .int .i64 0) rfl
                    have b4 := HZB.out.cell 4 (v := .int .i64 0) rfl
                    have b5 := HZB.out.cell 5 (v := .int .i64 0) rfl
                    have b6 := HZB.out.cell 6 (v := .int .i64 d2) rfl
                    have bl := HZB.out.lt
                    clear hJ hFF hSP HF HT HOW HZM HZB HIY HKY HLY ZB5 ZM5 HT5 HO5 HT0
                    go_wp2_with fail
                    refine HER.out.mono ?_
                    rintro e W1 ⟨oL, cL, rfl, ⟨B9, hB9, hL⟩, hbL⟩
                    have HTW := Lib.hid (HTX.out.on hbL)
                    have HOW := Lib.hid (owns_below HOX.out hbL)
                    have HLW := Lib.hid (owns_down hL (Nat.le_trans HTX.out.same.size hB9))
                    clear hL hB9 hbL HTX HOX HER b0 b1 b2 b3 b4 b5 b6 bl hd1 hd2 r1 rl
                    go_wp2_with fail
                    go_loopw [25] (fun v25 wr => ∃ (i : Nat) (t : Nat → Trp) (vT : Value), i ≤ nm ∧ v25 = .int .i64 (i : Nat) ∧ wr.ownsRow X4.heap.size 45 4 vT (b * nm + i) (trpNews (b * nm + i) t) ∧ Ring nb nm (b * nm + i) t E off tk ∧ wr.ownsRow X4.heap.size 35 2 (.slice oL nm cL) nm (Bn.spanNews nm F) ∧ TQ gZ gR J #[.int .i64 (nb : Nat), .int .i64 (nm : Nat), .int .i64 0, vT] X4 wr) (fun v25 _ => nm - (intOf v25).toNat)
                    case atStart => exact ⟨0, t, _, Nat.zero_le _, rfl, HOW.out, HRG.out, HLW.out, HTW.out⟩
                    case round =>
                      obtain ⟨i, t, vT, hi, rfl, hown, hRG, hL, hT⟩ := hrel
                      obtain ⟨oT, cT, rfl, -⟩ := owns_form hown
                      have HT := Lib.hid hT
                      have HRG := Lib.hid hRG
                      have HOW := Lib.hid hown
                      have HLW := Lib.hid hL
                      have r1 := hT.zR.cell 1 (v := .int .i64 (nm : Nat)) rfl
                      have rl := hT.zR.lt
                      clear hT hRG hown hL HTW
                      by_cases hin9 : i < nm
                      · have hd1 : decide (i < nm) = true := decide_eq_true hin9
                        have hd2 : decide ((i : Int) < (nm : Int)) = true := decide_eq_true (by omega)
                        as_aux_lemma =>
                          have hdn : b * nm + i ≤ 12 := by have : b * nm ≤ 3 * 3 := Nat.mul_le_mul (by omega) hm2; omega
                          obtain ⟨d, hd⟩ : ∃ d, d = b * nm + i := ⟨_, rfl⟩
                          have HD := Lib.hid hd
                          rw [← hd] at HT HOW HRG hdn
                          clear hd
                          obtain ⟨oU, cU, e9, hSP, -⟩ := Bn.owns_spans HLW.out
                          cases e9
                          obtain ⟨lb, lo9, e8, hll, l0, l1⟩ := hSP i hin9
                          obtain ⟨fb, fo, e7, hfl, fc⟩ := (HT.out.ints HIF.out HNF.out) i hin9
                          have HFI := Lib.hid (HQF.out i hin9)
                          obtain ⟨ee, hee⟩ : ∃ y, y = E i := ⟨_, rfl⟩
                          obtain ⟨sl, hsl⟩ : ∃ y, y = (F i).lo := ⟨_, rfl⟩
                          obtain ⟨sh, hsh⟩ : ∃ y, y = (F i).hi := ⟨_, rfl⟩
                          rw [← hee] at fc
                          rw [← hsl] at l0
                          rw [← hsh] at l1
                          rw [← hee, ← hsl, ← hsh] at HFI
                          have HSL := Lib.hid (And.intro hsl hsh)
                          have HEE := Lib.hid hee
                          clear hSP hee hsl hsh
                          subst e8
                          subst e7
                          have x0 : (0 : Int) ≤ (i : Int) := by omega
                          have x1 : (i : Int) < (nm : Int) := by omega
                          have HLC := Lib.hid (And.intro hll (And.intro l0 l1))
                          have HFC := Lib.hid (And.intro hfl fc)
                          clear hll l0 l1 hfl fc
                          go_upto_region 33 with fail
                          clear r1 rl hd1 hd2
                          go_cut [173] (fun s173 wx => s173 = .bool false ∧ Below wr.heap.size wr wx)
                          case first =>
                            have f0 : ∀ W : Aft wr, W.val.cell? ⟨fb, fo + i, none⟩ = some (.int .i64 ee) := fun W => (W.below.cell (p := ⟨fb, fo + i, none⟩) HFC.out.1).trans HFC.out.2
                            have f1 : ∀ W : Aft wr, W.val.cell? ⟨lb, lo9 + i * 2, none⟩ = some (.int .i64 sl) := fun W => (W.below.cell (p := ⟨lb, lo9 + i * 2, none⟩) HLC.out.1).trans HLC.out.2.1
                            have f2 : ∀ W : Aft wr, W.val.cell? ⟨lb, lo9 + i * 2 + 1, none⟩ = some (.int .i64 sh) := fun W => (W.below.cell (p := ⟨lb, lo9 + i * 2 + 1, none⟩) HLC.out.1).trans HLC.out.2.2
                            have f3 : ∀ W : Aft wr, lb < W.val.heap.size := fun W => Nat.lt_of_lt_of_le HLC.out.1 W.below.size
                            by_cases hbo : (b : Int) = off
                            · have d3 : ((b : Int) != off) = false := by simp [hbo]
                              have hbo := Lib.hid hbo
                              refine wp_region_aft (by kernel_rfl) (by kernel_rfl) ?_
                              repeat (go_big_quiet_step (fail))
                              refine wpQuiet_nil ?_
                              intro WA
                              obtain ⟨wy, hwy⟩ : ∃ X, X = WA.val := ⟨_, rfl⟩
                              have hby := WA.below
                              rw [← hwy] at hby ⊢
                              clear hwy WA
                              go_wp2_with fail
                              go_meet
                              exact ⟨rfl, hby⟩
                            · have d3 : ((b : Int) != off) = true := by simpa using hbo
                              have h9 := HFI.out.2 (.inl hbo)
                              have hbo := Lib.hid hbo
                              have d1 : decide (ee < sl) = false := decide_eq_false (by omega)
                              have d2 : decide (ee > sh) = false := decide_eq_false (by omega)
                              have d2' : decide (sh < ee) = false := decide_eq_false (by omega)
                              clear h9
                              refine wp_region_aft (by kernel_rfl) (by kernel_rfl) ?_
                              repeat (go_big_quiet_step (fail))
                              refine wpQuiet_nil ?_
                              intro WA
                              obtain ⟨wy, hwy⟩ : ∃ X, X = WA.val := ⟨_, rfl⟩
                              have hby := WA.below
                              rw [← hwy] at hby ⊢
                              clear hwy WA
                              go_wp2_with fail
                              go_meet
                              exact ⟨rfl, hby⟩
                          case rest =>
                            obtain ⟨rfl, hbx⟩ := hcut
                            have HT2 := Lib.hid (HT.out.on hbx)
                            have HO2 := Lib.hid (owns_below HOW.out hbx)
                            have HL2 := Lib.hid (owns_below HLW.out hbx)
                            have HLC2 : Hid (lb < wc.heap.size ∧ wc.cell? ⟨lb, lo9 + i * 2, none⟩ = some (.int .i64 sl) ∧ wc.cell? ⟨lb, lo9 + i * 2 + 1, none⟩ = some (.int .i64 sh)) := Lib.hid ⟨Nat.lt_of_lt_of_le HLC.out.1 hbx.size, (hbx.cell (p := ⟨lb, lo9 + i * 2, none⟩) HLC.out.1).trans HLC.out.2.1, (hbx.cell (p := ⟨lb, lo9 + i * 2 + 1, none⟩) HLC.out.1).trans HLC.out.2.2⟩
                            clear hbx HT HOW HLW HLC HFC
                            go_upto_region 35 with fail
                            have hP0 : ∀ A B : World, (TQ gZ gR J #[.int .i64 (nb : Nat), .int .i64 (nm : Nat), .int .i64 0, .slice oT d cT] X4 A ∧ lb < A.heap.size ∧ A.cell? ⟨lb, lo9 + i * 2, none⟩ = some (.int .i64 sl) ∧ A.cell? ⟨lb, lo9 + i * 2 + 1, none⟩ = some (.int .i64 sh)) → Below A.heap.size A B → (TQ gZ gR J #[.int .i64 (nb : Nat), .int .i64 (nm : Nat), .int .i64 0, .slice oT d cT] X4 B ∧ lb < B.heap.size ∧ B.cell? ⟨lb, lo9 + i * 2, none⟩ = some (.int .i64 sl) ∧ B.cell? ⟨lb, lo9 + i * 2 + 1, none⟩ = some (.int .i64 sh)) := fun A B h1 h2 => ⟨h1.1.on h2, Nat.lt_of_lt_of_le h1.2.1 h2.size, (h2.cell (p := ⟨lb, lo9 + i * 2, none⟩) h1.2.1).trans h1.2.2.1, (h2.cell (p := ⟨lb, lo9 + i * 2 + 1, none⟩) h1.2.1).trans h1.2.2.2⟩
                            have hP1 : ∀ A B : World, (∃ cs, TQ gZ gR J cs X4 A) → Below A.heap.size A B → (∃ cs, TQ gZ gR J cs X4 B) := fun _ _ h1 h2 => h1.imp fun _ h => h.on h2
                            have hC0 := hP0 _ _ ⟨HT2.out, HLC2.out⟩ (Below.refl wc.heap.size wc).drew
                            have hown := owns_below HO2.out (Below.refl wc.heap.size wc).drew
                            have hL := owns_below HL2.out (Below.refl wc.heap.size wc).drew
                            refine wp_region_phase 12 (fun A => TQ gZ gR J #[.int .i64 (nb : Nat), .int .i64 (nm : Nat), .int .i64 0, .slice oT d cT] X4 A ∧ lb < A.heap.size ∧ A.cell? ⟨lb, lo9 + i * 2, none⟩ = some (.int .i64 sl) ∧ A.cell? ⟨lb, lo9 + i * 2 + 1, none⟩ = some (.int .i64 sh)) (fun A => ∃ cs, TQ gZ gR J cs X4 A) (by kernel_rfl) ?_
                            (refine wpAnyP_take0 (i := 0) hP0 hP1 hC0 (by decide) (by rfl) rfl (by kernel_rfl) rfl (by kernel_rfl) (by kernel_rfl) (by kernel_rfl) (fun _ _ _ _ h => h) (by rfl) ?_; apply Exists.intro; refine ⟨fun w1 h1 K hK => ?_, ?_⟩; · (have q4 : ∀ V : Aft w1, gR < V.val.heap.size := fun V => (hP0 _ _ h1 V.below).1.zR.lt; go_big_quiet_op; first | exact hK | fail))
                            (refine wpAnyP_take0 (i := 1) hP0 hP1 hC0 (by decide) (by rfl) rfl (by kernel_rfl) rfl (by kernel_rfl) (by kernel_rfl) (by kernel_rfl) (fun _ _ _ _ h => h) (by rfl) ?_; apply Exists.intro; refine ⟨fun w1 h1 K hK => ?_, ?_⟩; · (have q4 : ∀ V : Aft w1, V.val.cell? ⟨gR, 3, none⟩ = some (.slice oT d cT) := fun V => (hP0 _ _ h1 V.below).1.zR.cell 3 rfl; go_big_quiet_op; first | exact hK | fail))
                            (refine wpAnyP_take0 (i := 2) hP0 hP1 hC0 (by decide) (by rfl) rfl (by kernel_rfl) rfl (by kernel_rfl) (by kernel_rfl) (by kernel_rfl) (fun _ _ _ _ h => h) (by rfl) ?_; apply Exists.intro; refine ⟨fun w1 h1 K hK => ?_, ?_⟩; · ( go_big_quiet_op; first | exact hK | fail))
                            (refine wpAnyP_take0 (i := 3) hP0 hP1 hC0 (by decide) (by rfl) rfl (by kernel_rfl) rfl (by kernel_rfl) (by kernel_rfl) (by kernel_rfl) (fun _ _ _ _ h => h) (by rfl) ?_; apply Exists.intro; refine ⟨fun w1 h1 K hK => ?_, ?_⟩; · ( go_big_quiet_op; first | exact hK | fail))
                            (refine wpAnyP_take0 (i := 4) hP0 hP1 hC0 (by decide) (by rfl) rfl (by kernel_rfl) rfl (by kernel_rfl) (by kernel_rfl) (by kernel_rfl) (fun _ _ _ _ h => h) (by rfl) ?_; apply Exists.intro; refine ⟨fun w1 h1 K hK => ?_, ?_⟩; · ( go_big_quiet_op; first | exact hK | fail))
                            (refine wpAnyP_take0 (i := 5) hP0 hP1 hC0 (by decide) (by rfl) rfl (by kernel_rfl) rfl (by kernel_rfl) (by kernel_rfl) (by kernel_rfl) (fun _ _ _ _ h => h) (by rfl) ?_; apply Exists.intro; refine ⟨fun w1 h1 K hK => ?_, ?_⟩; · ( go_big_quiet_op; first | exact hK | fail))
                            (refine wpAnyP_take0 (i := 6) hP0 hP1 hC0 (by decide) (by rfl) rfl (by kernel_rfl) rfl (by kernel_rfl) (by kernel_rfl) (by kernel_rfl) (fun _ _ _ _ h => h) (by rfl) ?_; apply Exists.intro; refine ⟨fun w1 h1 K hK => ?_, ?_⟩; · (have q4 : ∀ V : Aft w1, lb < V.val.heap.size := fun V => (hP0 _ _ h1 V.below).2.1; go_big_quiet_op; first | exact hK | fail))
                            (refine wpAnyP_take0 (i := 7) hP0 hP1 hC0 (by decide) (by rfl) rfl (by kernel_rfl) rfl (by kernel_rfl) (by kernel_rfl) (by kernel_rfl) (fun _ _ _ _ h => h) (by rfl) ?_; apply Exists.intro; refine ⟨fun w1 h1 K hK => ?_, ?_⟩; · (have q4 : ∀ V : Aft w1, V.val.cell? ⟨lb, lo9 + i * 2, none⟩ = some (.int .i64 sl) := fun V => (hP0 _ _ h1 V.below).2.2.1; have q5 : ∀ V : Aft w1, V.val.cell? ⟨lb, lo9 + i * 2 + 1, none⟩ = some (.int .i64 sh) := fun V => (hP0 _ _ h1 V.below).2.2.2; go_big_quiet_op; first | exact hK | fail))
                            (refine wpAnyP_take0 (i := 8) hP0 hP1 hC0 (by decide) (by rfl) rfl (by kernel_rfl) rfl (by kernel_rfl) (by kernel_rfl) (by kernel_rfl) (fun _ _ _ _ h => h) (by rfl) ?_; apply Exists.intro; refine ⟨fun w1 h1 K hK => ?_, ?_⟩; · ( go_big_quiet_op; first | exact hK | fail))
                            (refine wpAnyP_one (i := 9) (by kernel_rfl) rfl (by rfl) (fun wa hwa K hK => ?_))
                            go_simp
                            have hA0 := hP0 _ _ (hP0 _ _ hC0 hwa) (below_alloc1 wa (.cells #[.int .i64 (b : Nat), .int .i64 (i : Nat), .int .i64 sl, .int .i64 sh] 45))
                            refine hK _ _ hA0 ?_
                            clear hK K
                            have zN := Box.new (g := wa.heap.size) #[.int .i64 (b : Nat), .int .i64 (i : Nat), .int .i64 sl, .int .i64 sh] 45 wa rfl
                            have hown2 := owns_below (owns_below hown hwa) (below_alloc1 wa (.cells #[.int .i64 (b : Nat), .int .i64 (i : Nat), .int .i64 sl, .int .i64 sh] 45))
                            have hL2 := owns_below (owns_below hL hwa) (below_alloc1 wa (.cells #[.int .i64 (b : Nat), .int .i64 (i : Nat), .int .i64 sl, .int .i64 sh] 45))
                            clear hown hL hwa hC0
                            obtain ⟨gN, hG⟩ : ∃ G, G = wa.heap.size := ⟨_, rfl⟩
                            obtain ⟨wA, hWA⟩ : ∃ X, X = wa.alloc (.cells #[.int .i64 (b : Nat), .int .i64 (i : Nat), .int .i64 sl, .int .i64 sh] 45) := ⟨_, rfl⟩
                            rw [← hWA] at zN hA0 hown2 hL2 ⊢
                            rw [← hG] at zN ⊢
                            clear hG hWA
                            (refine wpAnyP_one (i := 10) (by kernel_rfl) rfl (by rfl) (fun wb hwb K hK => ?_))
                            have hC1 := hA0.1.on hwb
                            have hown1 := owns_below hown2 hwb
                            have hL1 := owns_below hL2 hwb
                            have zN1 := zN.below hwb
                            refine wp_append_gen (.tmp 175) (.tmp 183) 27 rfl X4.heap.size 45 iT _ 4 32 Tryd.underlying27 hiT hzT0 hzT1 hzT2 rfl (by omega) (.slice oT d cT) d (trpNews d t) rfl hown1 (some ⟨gN, 0, none⟩) 1 1 [.int .i64 (b : Nat), .int .i64 (i : Nat), .int .i64 sl, .int .i64 sh] rfl (fun e9 => by cases e9) rfl (fun ad9 e9 j9 u9 hu9 => by cases e9; rw [add_flat, Nat.zero_add]; exact zN1.cell j9 (by rw [List.getElem?_toArray]; exact hu9)) (by simp [Value.oneCell']) (by simp only [maxLen]; omega) (by omega) hC1.same.size (fun vT9 wS hownS hgrowS => ?_)
                            have hA1 := hC1.grown hown1 (Nat.le_refl _) hgrowS
                            have hLS := owns_other hown1 hL1 (by decide) hgrowS
                            have hcl : lb < wS.heap.size ∧ wS.cell? ⟨lb, lo9 + i * 2, none⟩ = some (.int .i64 sl) ∧ wS.cell? ⟨lb, lo9 + i * 2 + 1, none⟩ = some (.int .i64 sh) := by
                              obtain ⟨oU, cU, e9, hSP, -⟩ := Bn.owns_spans hLS
                              cases e9
                              obtain ⟨b9, o9, e8, h8, k0, k1⟩ := hSP i hin9
                              cases e8
                              rw [← HSL.out.1] at k0
                              rw [← HSL.out.2] at k1
                              exact ⟨h8, k0, k1⟩
                            clear hown1 hgrowS hC1 hown2 hL1 hL2 hwb hA0 zN1 zN
                            obtain ⟨oV, cV, rfl, -⟩ := owns_form hownS
                            go_simp
                            refine hK _ _ ⟨hA1, hcl⟩ ?_
                            clear hK K
                            (refine wpAnyP_one (i := 11) (by kernel_rfl) rfl (by rfl) (fun we hwe K hK => ?_))
                            have hgx9 := (hA1.on hwe).zR.lt
                            go_simp
                            refine hK _ _ (hP0 _ _ ⟨hA1, hcl⟩ hwe) ?_
                            clear hK K
                            (refine wpAnyP_one (i := 12) (by kernel_rfl) rfl (by rfl) (fun wd hwd K hK => ?_))
                            have hA2 := (hA1.on hwe).on hwd
                            have hownT := owns_below (owns_below hownS hwe) hwd
                            have hLT := owns_below (owns_below hLS hwe) hwd
                            refine wp_store_slice hA2.zR rfl rfl rfl (by simp) (by kernel_rfl) (fun wf ze ho => ?_)
                            dsimp only [Act.put]
                            have hownU := owns_but hownT ho.but (own_ne hownT hA2.zR (by decide))
                            have hLU := owns_but hLT ho.but (own_ne hLT hA2.zR (by decide))
                            have hA3 := hA2.only ho ze n3
                            refine hK _ _ ⟨_, hA3⟩ ?_
                            clear hK K
                            refine wpAnyP_done (by kernel_rfl) (fun wz hwz => ?_) _
                            have HAZ := Lib.hid (hA3.on hwz)
                            have HOZ := Lib.hid (owns_below hownU hwz)
                            have HLZ := Lib.hid (owns_below hLU hwz)
                            clear hA1 hA2 hA3 hwe hwd hwz hownS hownT hownU hLS hLT hLU hcl ze ho hP0 hP1 hgx9 HT2 HO2 HL2 HLC2
                            go_wp2_with fail
                            go_roundw
                            case rel => exact ⟨i + 1, fun c => if c = d then ⟨b, i, sl, sh⟩ else t c, .slice oV (d + 1) cV, by omega, by go_num, (by have := HOZ.out; rw [trpNews_put d t ⟨b, i, sl, sh⟩] at this; rw [show b * nm + (i + 1) = d + 1 by have := HD.out; omega]; exact this), (by
                              have h9 := HRG.out
                              rw [HD.out] at h9
                              have h8 := h9.put hin hin9 HFI.out.1 (by rw [← HEE.out]; exact HFI.out.2)
                              rw [← HD.out] at h8
                              rw [show b * nm + (i + 1) = d + 1 by have := HD.out; omega]
                              exact h8), HLZ.out, HAZ.out⟩
                            case measure => simp [intOf]; omega
                      · obtain rfl : nm = i := by omega
                        have hd1 : decide (nm < nm) = false := by simp
                        have hd2 : decide ((nm : Int) < (nm : Int)) = false := by simp
                        go_wp2_with fail
                        go_roundw
                        case rel => exact ⟨b + 1, J, t, _, by omega, by go_num, HJ.out, by have := HOW.out; rw [show (b + 1) * nm = b * nm + nm by rw [Nat.add_mul, Nat.one_mul]]; exact this, by have := HRG.out; rw [show (b + 1) * nm = b * nm + nm by rw [Nat.add_mul, Nat.one_mul]]; exact this, HT.out⟩
                        case measure => simp [intOf]; omega
          · obtain rfl : nb = b := by omega
            have hd1 : decide (nb < nb) = false := by simp
            have hd2 : decide ((nb : Int) < (nb : Int)) = false := by simp
            as_aux_lemma =>
              obtain ⟨oU, cU, e9, hst⟩ := owns_trps HOW.out
              cases e9
              have hn14 : nb * nm ≤ 12 := Nat.mul_le_mul hn2 hm2
              have I0 := Lib.hid (show Vr w gR #[.int .i64 (nb : Nat), .int .i64 (nm : Nat), .int .i64 0, .slice oT (nb * nm) cT] oT (nb * nm) t oF nm E wr from ⟨HT.out.low HLW3.out hz hr, HT.out.zR, hst, HT.out.ints HIF.out HNF.out⟩)
              have HTB := Lib.hid (fun (W : World) (h : Below w.heap.size w W) => And.intro (tab_below HTAB.out h1 h) (Nat.lt_of_lt_of_le h1 h.size))
              clear hst HT HOW HT3' HLW3 HZ93 HIF HNF HDR HQ HQL r0 rl
              obtain ⟨CC, hCC⟩ : ∃ y, y = (ringR nb nm t).convict := ⟨_, rfl⟩
              have HCV : Hid (Calls Tryd.prog 7 #[.agg #[.int .i64 (nb : Nat), .int .i64 (nm : Nat), .int .i64 0, .slice oT (nb * nm) cT]] wr fun e w' => e = .returned (.tuple #[.int .i64 CC.1, .int .i64 CC.2]) ∧ Below wr.heap.size wr w') := Lib.hid (by rw [hCC]; exact convict_any (ringR nb nm t) oT cT wr (by dsimp only; omega) (HTB.out _ I0.out.low).1 (HTB.out _ I0.out.low).2 I0.out.tr)
              have HCC := Lib.hid hCC
              clear hCC
              obtain ⟨g0, g1, g2, g3, g4⟩ := I0.out.cells
              go_wp2_with fail
              refine HCV.out.mono ?_
              rintro e V1 ⟨rfl, hb⟩
              have I1 := Lib.hid (I0.out.on hb)
              clear HCV hb I0 g0 g1 g2 g3 g4 hd1 hd2
              obtain ⟨cb, ce⟩ := CC
              have HN4 := Lib.hid (show (1 ≤ nb ∧ nb ≤ 4) ∧ (1 ≤ nm ∧ nm ≤ 3) from ⟨⟨hn1, hn2⟩, hm1, hm2⟩)
              go_upto_region 37 with fail
              by_cases hs : off < 0 ∨ tk = 0
              · have hce : ce = 4 := by have := (HRG.out.fine hs HN4.out.1 HN4.out.2).2.2; rw [← HCC.out] at this; exact this
                subst hce
                go_cut [196] (fun s196 wx => s196 = .bool true ∧ V1 = wx)
                case first =>
                  by_cases h0 : off < 0
                  · have d0 : decide (off < 0) = true := decide_eq_true h0
                    go_wp2_with fail
                    go_meet
                    exact ⟨rfl, rfl⟩
                  · have d0 : decide (off < 0) = false := decide_eq_false h0
                    obtain rfl : tk = 0 := by omega
                    go_wp2_with fail
                    go_meet
                    exact ⟨rfl, rfl⟩
                case rest =>
                  obtain ⟨rfl, rfl⟩ := hcut
                  have HS := Lib.hid hs
                  clear hs
                  as_aux_lemma =>
                    have HFT : Hid (Calls Tryd.prog 8 #[.agg #[.int .i64 (nb : Nat), .int .i64 (nm : Nat), .int .i64 0, .slice oT (nb * nm) cT], .int .i64 (-1)] V1 fun e w' => e = .returned (.tuple #[.bool true, .int .i64 0]) ∧ Below V1.heap.size V1 w') := Lib.hid (by
                      have h9 := fits_any (ringR nb nm t) oT cT (-1) V1 (by dsimp only; omega) (HTB.out _ I1.out.low).1 (HTB.out _ I1.out.low).2 I1.out.tr
                      have h8 := HRG.out.fine HS.out HN4.out.1 HN4.out.2
                      rw [h8.1, h8.2.1] at h9
                      exact h9)
                    obtain ⟨g0, g1, g2, g3, g4⟩ := I1.out.cells
                    go_wp2_with fail
                    refine HFT.out.mono ?_
                    rintro e V2 ⟨rfl, hb⟩
                    have I2 := Lib.hid (I1.out.on hb)
                    clear HFT hb I1 g0 g1 g2 g3 g4
                    go_wp2_with fail
                    go_loopw [30] (fun v30 wr => ∃ i : Nat, i ≤ nm ∧ v30 = .int .i64 (i : Nat) ∧ Vr w gR #[.int .i64 (nb : Nat), .int .i64 (nm : Nat), .int .i64 0, .slice oT (nb * nm) cT] oT (nb * nm) t oF nm E wr) (fun v30 _ => nm - (intOf v30).toNat)
                    case atStart => exact ⟨0, Nat.zero_le _, rfl, I2.out⟩
                    case round =>
                      obtain ⟨i, hi, rfl, hI⟩ := hrel
                      have I3 := Lib.hid hI
                      clear hI I2
                      obtain ⟨g0, g1, g2, g3, g4⟩ := I3.out.cells
                      by_cases hin : i < nm
                      · have hd1 : decide (i < nm) = true := decide_eq_true hin
                        have hd2 : decide ((i : Int) < (nm : Int)) = true := decide_eq_true (by omega)
                        have HTL := Lib.hid (HRG.out.tells HS.out HN4.out.1 HN4.out.2 hin)
                        obtain ⟨TT, hTT⟩ : ∃ y, y = (ringR nb nm t).error (-1) (i : Nat) := ⟨_, rfl⟩
                        have HER : Hid (Calls Tryd.prog 9 #[.agg #[.int .i64 (nb : Nat), .int .i64 (nm : Nat), .int .i64 0, .slice oT (nb * nm) cT], .int .i64 (-1), .int .i64 (i : Nat)] wr fun e w' => e = .returned TT.val ∧ Below wr.heap.size wr w') := Lib.hid (by rw [hTT]; exact error_any (ringR nb nm t) oT cT (-1) (i : Nat) wr (by dsimp only; omega) (HTB.out _ I3.out.low).1 (HTB.out _ I3.out.low).2 I3.out.tr)
                        rw [← hTT] at HTL
                        clear hTT
                        go_wp2_with fail
                        refine HER.out.mono ?_
                        rintro e V3 ⟨rfl, hb⟩
                        obtain ⟨sl, sh, se⟩ := TT
                        have hse : se = 0 := HTL.out.1
                        subst hse
                        have I4 := I3.out.on hb
                        have hI5 := I4.on (below_alloc1 V3 (.cells #[.int .i64 sl, .int .i64 sh] 35))
                        clear HER hb I3 g0 g1 g2 g3 g4 hd1 hd2
                        go_upto_region 45 with fail
                        have zS := Box.new (g := V3.heap.size) #[.int .i64 sl, .int .i64 sh] 35 V3 rfl
                        obtain ⟨V4, hW⟩ : ∃ X, X = V3.alloc (.cells #[.int .i64 sl, .int .i64 sh] 35) := ⟨_, rfl⟩
                        rw [← hW] at hI5 zS ⊢
                        clear hW I4
                        obtain ⟨gS, hG⟩ : ∃ G, G = V3.heap.size := ⟨_, rfl⟩
                        rw [← hG] at zS ⊢
                        clear hG
                        have f1 : ∀ W : Aft V4, W.val.cell? ⟨gS, 0, none⟩ = some (.int .i64 sl) := fun W => (zS.below W.below).cell 0 rfl
                        have f2 : ∀ W : Aft V4, W.val.cell? ⟨gS, 1, none⟩ = some (.int .i64 sh) := fun W => (zS.below W.below).cell 1 rfl
                        obtain ⟨fb, fo, e7, hfl, fc⟩ := hI5.er i hin
                        subst e7
                        obtain ⟨ee, hee⟩ : ∃ y, y = E i := ⟨_, rfl⟩
                        have u1 : sl ≤ E i := HTL.out.2.1
                        have u2 : E i ≤ sh := HTL.out.2.2
                        rw [← hee] at fc u1 u2
                        clear hee
                        have f4 : ∀ W : Aft V4, W.val.cell? ⟨fb, fo + i, none⟩ = some (.int .i64 ee) := fun W => (W.below.cell (p := ⟨fb, fo + i, none⟩) hfl).trans fc
                        have I5 := Lib.hid hI5
                        have hx0 : (0 : Int) ≤ (i : Int) := by omega
                        have hx1 : (i : Int) < (nm : Int) := by omega
                        have d1 : decide (ee < sl) = false := decide_eq_false (by omega)
                        have d2 : decide (ee > sh) = false := decide_eq_false (by omega)
                        have d2' : decide (sh < ee) = false := decide_eq_false (by omega)
                        clear HTL u1 u2 hI5 zS hfl fc
                        refine wp_region_aft (by kernel_rfl) (by kernel_rfl) ?_
                        repeat (go_big_quiet_step (fail))
                        refine wpQuiet_nil ?_
                        intro WA
                        obtain ⟨wy, hwy⟩ : ∃ X, X = WA.val := ⟨_, rfl⟩
                        have hby := WA.below
                        rw [← hwy] at hby ⊢
                        clear hwy WA
                        have I6 := Lib.hid (I5.out.on hby)
                        clear hby f1 f2 f4 I5
                        go_wp2_with fail
                        go_roundw
                        case rel => exact ⟨i + 1, by omega, by go_num, I6.out⟩
                        case measure => simp [intOf]; omega
                      · have hd1 : decide (i < nm) = false := decide_eq_false hin
                        have hd2 : decide ((i : Int) < (nm : Int)) = false := decide_eq_false (by omega)
                        go_wp2_with fail
                        refine (HAW.out _ (HTB.out _ I3.out.low).1 (HTB.out _ I3.out.low).2).mono ?_
                        rintro e V5 ⟨rfl, hb⟩
                        have hlow := (I3.out.on hb).low
                        clear hb I3 g0 g1 g2 g3 g4
                        go_wp2_with fail
                        go_ret
                        exact ⟨rfl, hlow⟩
              · have hs' : 0 ≤ off ∧ tk ≠ 0 := by omega
                have d0 : decide (off < 0) = false := decide_eq_false (by omega)
                have d1 : (tk == 0) = false := by simpa using hs'.2
                have HON := Lib.hid (HRG.out.one HN4.out.1 HN4.out.2 ⟨hs'.1, o2⟩)
                clear hs
                as_aux_lemma =>
                  obtain ⟨fb, hfb⟩ : ∃ y, y = (ringR nb nm t).fitsB off := ⟨_, rfl⟩
                  have HFT : Hid (Calls Tryd.prog 8 #[.agg #[.int .i64 (nb : Nat), .int .i64 (nm : Nat), .int .i64 0, .slice oT (nb * nm) cT], .int .i64 off] V1 fun e w' => e = .returned (.tuple #[.bool fb, .int .i64 0]) ∧ Below V1.heap.size V1 w') := Lib.hid (by
                    have h9 := fits_any (ringR nb nm t) oT cT off V1 (by dsimp only; omega) (HTB.out _ I1.out.low).1 (HTB.out _ I1.out.low).2 I1.out.tr
                    rw [HON.out.1, ← hfb] at h9
                    exact h9)
                  have HOO := Lib.hid (show fb = true → ce = 0 → cb = off from fun h7 h8 => by
                    have h9 := HON.out.2 (by rw [← hfb]; exact h7)
                    rw [← HCC.out] at h9
                    exact h9 h8)
                  clear hfb HON HCC
                  obtain ⟨g0, g1, g2, g3, g4⟩ := I1.out.cells
                  go_wp2_with fail
                  refine HFT.out.mono ?_
                  rintro e V2 ⟨rfl, hb⟩
                  have I2 := Lib.hid (I1.out.on hb)
                  clear HFT hb I1 g0 g1 g2 g3 g4 d0 d1
                  have HAV := Lib.hid (HAW.out _ (HTB.out _ I2.out.low).1 (HTB.out _ I2.out.low).2)
                  go_upto_region 49 with fail
                  cases fb
                  · go_wp2_with fail
                    refine HAV.out.mono ?_
                    rintro e V3 ⟨rfl, hb⟩
                    have hlow := (I2.out.on hb).low
                    clear hb I2
                    go_wp2_with fail
                    go_ret
                    exact ⟨rfl, hlow⟩
                  · by_cases hce : ce = 0
                    · have hcb := HOO.out rfl hce
                      subst hce
                      subst hcb
                      go_wp2_with fail
                      refine HAV.out.mono ?_
                      rintro e V3 ⟨rfl, hb⟩
                      have hlow := (I2.out.on hb).low
                      clear hb I2
                      go_wp2_with fail
                      go_ret
                      exact ⟨rfl, hlow⟩
                    · have d5 : (ce != 0) = true := by simpa using hce
                      go_wp2_with fail
                      refine HAV.out.mono ?_
                      rintro e V3 ⟨rfl, hb⟩
                      have hlow := (I2.out.on hb).low
                      clear hb I2
                      go_wp2_with fail
                      go_ret
                      exact ⟨rfl, hlow⟩
end Go.Proofs.YtlofopnjjeeehaaDoor
