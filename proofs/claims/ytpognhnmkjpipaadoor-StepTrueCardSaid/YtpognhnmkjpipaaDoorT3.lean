/- StepTrue's truth: a test that was made out of leaks and uses: the walk. -/
import Derived.Test.YtpognhnmkjpipaaDoorT2
import Derived.Test.YtpognhnmkjpipaaDoorL6
import Derived.Test.YtpognhnmkjpipaaDoorP14
namespace Go.Proofs.YtpognhnmkjpipaaDoor
open Go.RowKit
/-- what truth keeps -/
structure TR (w : World) (gT gZ gL : Nat) (bv us ss : Value) (L S j : Nat) (l : Nat → Int) (W : World) : Prop where
  low : Below w.heap.size w W
  z5 : Box w.heap.size #[bv] 41 W
  z6 : Box (w.heap.size + 1) #[.slice none 0 0, .int .i64 0, .int .i64 0, .slice none 0 0] 25 W
  z8 : Box (w.heap.size + 1 + 1) (cells10 fun _ => 0) 42 W
  zT : Box gT #[us, .int .i64 (L : Nat), .int .i64 (S : Nat), ss] 25 W
  zZ : Box gZ #[.int .i64 (j : Nat)] 3 W
  zL : Box gL (cells10 l) 42 W
theorem TR.on {w : World} {gT gZ gL : Nat} {bv us ss : Value} {L S j : Nat} {l : Nat → Int} {A B : World} (h : TR w gT gZ gL bv us ss L S j l A) (hb : Below A.heap.size A B) : TR w gT gZ gL bv us ss L S j l B :=
  ⟨h.low.trans (hb.mono h.low.size), h.z5.below hb, h.z6.below hb, h.z8.below hb, h.zT.below hb, h.zZ.below hb, h.zL.below hb⟩
theorem TR.grown {w : World} {gT gZ gL : Nat} {bv us ss : Value} {L S j : Nat} {l : Nat → Int} {A B : World} {size m : Nat} {v : Value} {xs : List Value} (h : TR w gT gZ gL bv us ss L S j l A) (ho : A.ownsRow w.heap.size 37 size v m xs) (hg : A.grownBy B v.ownBlock) : TR w gT gZ gL bv us ss L S j l B :=
  ⟨below_grown h.low ho hg, box_grown h.z5 ho (by decide) hg, box_grown h.z6 ho (by decide) hg, box_grown h.z8 ho (by decide) hg, box_grown h.zT ho (by decide) hg, box_grown h.zZ ho (by decide) hg, box_grown h.zL ho (by decide) hg⟩
theorem TR.zed {w : World} {gT gZ gL : Nat} {bv us ss : Value} {L S j J : Nat} {l : Nat → Int} {A B : World} (h : TR w gT gZ gL bv us ss L S j l A) (hz : Zed gZ J A B) (h3 : w.heap.size + 3 ≤ gZ) (nT : gT ≠ gZ) (nL : gL ≠ gZ) : TR w gT gZ gL bv us ss L S J l B :=
  ⟨h.low.trans (hz.below (by omega) h.low.size), hz.old h.z5 (by omega), hz.old h.z6 (by omega), hz.old h.z8 (by omega), hz.old h.zT nT, hz.box, hz.old h.zL nL⟩
/-- what truth keeps while it makes the steps -/
structure TS (w : World) (gT gZ gL gU : Nat) (bv us ss : Value) (cur : Array Value) (L S j : Nat) (l : Nat → Int) (W : World) : Prop where
  tr : TR w gT gZ gL bv us ss L S j l W
  zU : Box gU cur 37 W
theorem TS.on {w : World} {gT gZ gL gU : Nat} {bv us ss : Value} {cur : Array Value} {L S j : Nat} {l : Nat → Int} {A B : World} (h : TS w gT gZ gL gU bv us ss cur L S j l A) (hb : Below A.heap.size A B) : TS w gT gZ gL gU bv us ss cur L S j l B := ⟨h.tr.on hb, h.zU.below hb⟩
theorem TS.zed {w : World} {gT gZ gL gU : Nat} {bv us ss : Value} {cur : Array Value} {L S j J : Nat} {l : Nat → Int} {A B : World} (h : TS w gT gZ gL gU bv us ss cur L S j l A) (hz : Zed gZ J A B) (h3 : w.heap.size + 3 ≤ gZ) (nT : gT ≠ gZ) (nL : gL ≠ gZ) (nU : gU ≠ gZ) : TS w gT gZ gL gU bv us ss cur L S J l B :=
  ⟨h.tr.zed hz h3 nT nL, hz.old h.zU nU⟩
theorem TS.grown {w : World} {gT gZ gL gU : Nat} {bv us ss : Value} {cur : Array Value} {L S j : Nat} {l : Nat → Int} {A B : World} {size m : Nat} {v : Value} {xs : List Value} (h : TS w gT gZ gL gU bv us ss cur L S j l A) (ho : A.ownsRow w.heap.size 49 size v m xs) (hg : A.grownBy B v.ownBlock) : TS w gT gZ gL gU bv us ss cur L S j l B :=
  ⟨⟨below_grown h.tr.low ho hg, box_grown h.tr.z5 ho (by decide) hg, box_grown h.tr.z6 ho (by decide) hg, box_grown h.tr.z8 ho (by decide) hg, box_grown h.tr.zT ho (by decide) hg, box_grown h.tr.zZ ho (by decide) hg, box_grown h.tr.zL ho (by decide) hg⟩, box_grown h.zU ho (by decide) hg⟩
theorem own_ne0 {g g' : Nat} {cs cs' : Array Value} {t t' : TypeId} {w : World} (h : Box g cs t w) (h' : Box g' cs' t' w) (hne : t ≠ t') : g ≠ g' := fun e => by
  subst e
  have := h.row.symm.trans h'.row
  simp at this
  exact hne this.2
theorem own_lt {w : World} {base e size n : Nat} {v : Value} {xs : List Value} (h : w.ownsRow base e size v n xs) : ∀ b, v.ownBlock = some b → b < w.heap.size := fun b hb => by
  rcases h.2 with ⟨rfl, _⟩ | ⟨g', c, cur, rfl, _, hg, _⟩
  · cases hb
  · simp only [Value.ownBlock, Option.some.injEq] at hb
    subst hb
    rcases Nat.lt_or_ge g' w.heap.size with h' | h'
    · exact h'
    · rw [Array.getElem?_eq_none h'] at hg; cases hg
theorem flow_step {u : Nat → Spn} {l qq : Nat → Int} {sh c : Nat} {F v : Int} (hq : ∀ b, b < c → (u b).lo ≤ qq b ∧ qq b ≤ (u b).hi) (hF : F = sumO (fun b => l b + qq b) sh c) (hv : (u c).lo ≤ v ∧ v ≤ (u c).hi) :
    (∀ b, b < c + 1 → (u b).lo ≤ (if b = c then v else qq b) ∧ (if b = c then v else qq b) ≤ (u b).hi) ∧ F + (if hasB sh c = true then 0 else l c + v) = sumO (fun b => l b + (if b = c then v else qq b)) sh (c + 1) := by
  refine ⟨fun b hb => ?_, ?_⟩
  · by_cases hbc : b = c
    · rw [if_pos hbc, hbc]; exact hv
    · rw [if_neg hbc]; exact hq b (by omega)
  · show _ = sumO (fun b => l b + (if b = c then v else qq b)) sh c + (if hasB sh c = true then 0 else l c + (if c = c then v else qq c))
    rw [if_pos rfl, hF, sumO_congr (g := fun b => l b + (if b = c then v else qq b)) fun b hb => by rw [if_neg (by omega)]]
theorem spnNews_congr {f g : Nat → Spn} : ∀ {n}, (∀ i, i < n → f i = g i) → spnNews n f = spnNews n g
  | 0, _ => rfl
  | n + 1, h => by rw [spnNews_succ, spnNews_succ, spnNews_congr (fun i hi => h i (by omega)), h n (by omega)]
theorem spnNews_put (i : Nat) (u : Nat → Spn) (v : Spn) : spnNews i u ++ [.int .i64 v.lo, .int .i64 v.hi] = spnNews (i + 1) (fun c => if c = i then v else u c) := by
  rw [spnNews_succ, if_pos rfl, spnNews_congr (fun c hc => (if_neg (by omega) : (if c = i then v else u c) = u c).symm)]
theorem stpNews_put (i : Nat) (u : Nat → Stp) (v : Stp) : stpNews i u ++ [.int .i64 v.shut, .int .i64 v.flow.lo, .int .i64 v.flow.hi] = stpNews (i + 1) (fun c => if c = i then v else u c) := by
  rw [stpNews_succ, if_pos rfl, stpNews_congr (fun c hc => (if_neg (by omega) : (if c = i then v else u c) = u c).symm)]
set_option maxRecDepth 100000 in
set_option maxHeartbeats 8000000 in
theorem truth_any (a b : Nat) (ka : Option Addr) (kn kc : Nat) (q : Nat → Nat) (w : World) (ha : a < 256) (hb : b < 256) (hkn : 0 < kn) (hkn2 : kn ≤ 9223372036854775807) (hQ : U16sAt w ka kn q) :
    Calls Tryd.prog 20 #[.int .u8 (a : Nat), .int .u8 (b : Nat), .slice ka kn kc] w fun e w' => (∃ (t : Tst) (x : Nat) (l : Nat → Int) (oa : Option Addr) (ca : Nat) (ob : Option Addr) (cb : Nat), e = .returned (.tuple #[t.val oa ca ob cb, .int .i64 (x : Nat), .agg (cells10 l)]) ∧ t.valid = true ∧ Truth t x l ∧ SpnsAt w' oa t.n t.u ∧ StpsAt w' ob t.m t.s) ∧ Below w.heap.size w w' := by
  have HQ := Lib.hid hQ
  obtain ⟨hq9, qb, qo, rfl, hlt1, u0⟩ := hQ 0 hkn
  rw [Nat.add_zero] at u0
  clear hQ
  obtain ⟨n, hn⟩ : ∃ n, n = 1 + a % 10 := ⟨_, rfl⟩
  have hn1 : 1 ≤ n := by omega
  have hn2 : n ≤ 10 := by omega
  have e1 : (1 : Int) + (a : Int).tmod 10 = (n : Int) := by rw [Int.tmod_eq_emod_of_nonneg (by omega)]; omega
  have e1' : (1 : Int) + (a : Int) % 10 = (n : Int) := by omega
  obtain ⟨L, hL⟩ : ∃ n, n = b % 3 := ⟨_, rfl⟩
  have hL2 : L ≤ 2 := by omega
  have e2 : (b : Int).tmod 3 = (L : Int) := by rw [Int.tmod_eq_emod_of_nonneg (by omega)]; omega
  have e2' : (b : Int) % 3 = (L : Int) := by omega
  obtain ⟨S, hS⟩ : ∃ n, n = 1 + q 0 % 30 := ⟨_, rfl⟩
  have hS1 : 1 ≤ S := by omega
  have hS2 : S ≤ 30 := by omega
  have e3 : (1 : Int) + (q 0 : Int).tmod 30 = (S : Int) := by rw [Int.tmod_eq_emod_of_nonneg (by omega)]; omega
  have e3' : (1 : Int) + (q 0 : Int) % 30 = (S : Int) := by omega
  have e4 : ((a : Nat) : Int) % 10 < 10 := by omega
  clear hn hL hS
  go_enter Tryd.func20, Tryd.ntmps20
  go_upto_region 2 with fail
  have hb3 : Below w.heap.size w (((w.alloc (.cells #[.slice (some ⟨qb, qo, none⟩) kn kc] 41)).alloc (.cells #[.slice none 0 0, .int .i64 0, .int .i64 0, .slice none 0 0] 25)).alloc (.cells #[.int .i64 0, .int .i64 0, .int .i64 0, .int .i64 0, .int .i64 0, .int .i64 0, .int .i64 0, .int .i64 0, .int .i64 0, .int .i64 0] 42)) := (by repeat' (first | exact Below.refl _ _ | assumption | apply below_drewN | apply Below.drew | (refine Below.alloc ?_ ?_ _) | (refine Below.setCell ?_ ?_ _) | (simp; done) | (simp; omega) | omega))
  have z5 : Box w.heap.size #[.slice (some ⟨qb, qo, none⟩) kn kc] 41 (((w.alloc (.cells #[.slice (some ⟨qb, qo, none⟩) kn kc] 41)).alloc (.cells #[.slice none 0 0, .int .i64 0, .int .i64 0, .slice none 0 0] 25)).alloc (.cells #[.int .i64 0, .int .i64 0, .int .i64 0, .int .i64 0, .int .i64 0, .int .i64 0, .int .i64 0, .int .i64 0, .int .i64 0, .int .i64 0] 42)) := ((Box.new _ 41 w rfl).old _).old _
  have z6 : Box (w.heap.size + 1) #[.slice none 0 0, .int .i64 0, .int .i64 0, .slice none 0 0] 25 (((w.alloc (.cells #[.slice (some ⟨qb, qo, none⟩) kn kc] 41)).alloc (.cells #[.slice none 0 0, .int .i64 0, .int .i64 0, .slice none 0 0] 25)).alloc (.cells #[.int .i64 0, .int .i64 0, .int .i64 0, .int .i64 0, .int .i64 0, .int .i64 0, .int .i64 0, .int .i64 0, .int .i64 0, .int .i64 0] 42)) := (Box.new _ 25 _ (by simp)).old _
  have z8 : Box (w.heap.size + 1 + 1) (cells10 fun _ => 0) 42 (((w.alloc (.cells #[.slice (some ⟨qb, qo, none⟩) kn kc] 41)).alloc (.cells #[.slice none 0 0, .int .i64 0, .int .i64 0, .slice none 0 0] 25)).alloc (.cells #[.int .i64 0, .int .i64 0, .int .i64 0, .int .i64 0, .int .i64 0, .int .i64 0, .int .i64 0, .int .i64 0, .int .i64 0, .int .i64 0] 42)) := Box.new _ 42 _ (by simp)
  obtain ⟨X0, hW⟩ : ∃ X, X = (((w.alloc (.cells #[.slice (some ⟨qb, qo, none⟩) kn kc] 41)).alloc (.cells #[.slice none 0 0, .int .i64 0, .int .i64 0, .slice none 0 0] 25)).alloc (.cells #[.int .i64 0, .int .i64 0, .int .i64 0, .int .i64 0, .int .i64 0, .int .i64 0, .int .i64 0, .int .i64 0, .int .i64 0, .int .i64 0] 42)) := ⟨_, rfl⟩
  rw [← hW] at hb3 z5 z6 z8 ⊢
  clear hW
  have u1 : X0.cell? ⟨qb, qo, none⟩ = some (.int .u16 (q 0 : Nat)) := (hb3.cell (p := ⟨qb, qo, none⟩) hlt1).trans u0
  have u2 : qb < X0.heap.size := Nat.lt_of_lt_of_le hlt1 hb3.size
  have c5 := z5.cell 0 (v := .slice (some ⟨qb, qo, none⟩) kn kc) rfl
  have c6 := z5.lt
  have hi0 : (0 : Int) < (kn : Int) := by omega
  go_upto_region 7 with fail
  have hb6 : Below X0.heap.size X0 (((X0.alloc (.cells #[.slice none 0 0, .int .i64 (L : Nat), .int .i64 (S : Nat), .slice none 0 0] 25)).alloc (.cells #[.int .i64 0] 3)).alloc (.cells #[.int .i64 0, .int .i64 0, .int .i64 0, .int .i64 0, .int .i64 0, .int .i64 0, .int .i64 0, .int .i64 0, .int .i64 0, .int .i64 0] 42)) := (by repeat' (first | exact Below.refl _ _ | assumption | apply below_drewN | apply Below.drew | (refine Below.alloc ?_ ?_ _) | (refine Below.setCell ?_ ?_ _) | (simp; done) | (simp; omega) | omega))
  have hTR : TR w X0.heap.size (X0.heap.size + 1) (X0.heap.size + 1 + 1) (.slice (some ⟨qb, qo, none⟩) kn kc) (.slice none 0 0) (.slice none 0 0) L S 0 (fun _ => 0) (((X0.alloc (.cells #[.slice none 0 0, .int .i64 (L : Nat), .int .i64 (S : Nat), .slice none 0 0] 25)).alloc (.cells #[.int .i64 0] 3)).alloc (.cells #[.int .i64 0, .int .i64 0, .int .i64 0, .int .i64 0, .int .i64 0, .int .i64 0, .int .i64 0, .int .i64 0, .int .i64 0, .int .i64 0] 42)) := ⟨hb3.trans (hb6.mono hb3.size), z5.below hb6, z6.below hb6, z8.below hb6, ((Box.new _ 25 X0 rfl).old _).old _, (Box.new _ 3 _ (by simp)).old _, Box.new _ 42 _ (by simp)⟩
  have h3 : w.heap.size + 3 ≤ X0.heap.size := by have := z8.lt; omega
  obtain ⟨X1, hW⟩ : ∃ X, X = (((X0.alloc (.cells #[.slice none 0 0, .int .i64 (L : Nat), .int .i64 (S : Nat), .slice none 0 0] 25)).alloc (.cells #[.int .i64 0] 3)).alloc (.cells #[.int .i64 0, .int .i64 0, .int .i64 0, .int .i64 0, .int .i64 0, .int .i64 0, .int .i64 0, .int .i64 0, .int .i64 0, .int .i64 0] 42)) := ⟨_, rfl⟩
  rw [← hW] at hTR ⊢
  clear hW hb6 z5 z6 z8 u0 u1 u2 c5 c6 hb3
  obtain ⟨gZ, hG⟩ : ∃ G, G = X0.heap.size + 1 := ⟨_, rfl⟩
  have hGT : X0.heap.size = gZ - 1 := by omega
  obtain ⟨gT, hG2⟩ : ∃ G, G = X0.heap.size := ⟨_, rfl⟩
  obtain ⟨gL, hG3⟩ : ∃ G, G = X0.heap.size + 1 + 1 := ⟨_, rfl⟩
  have nT : gT ≠ gZ := by omega
  have nL : gL ≠ gZ := by omega
  have nTL : gT ≠ gL := by omega
  have h3Z : w.heap.size + 3 ≤ gZ := by omega
  have h3T : w.heap.size + 3 ≤ gT := by omega
  have h3L : w.heap.size + 3 ≤ gL := by omega
  rw [← hG3, ← hG, ← hG2] at hTR ⊢
  clear hG hG2 hG3 h3 hGT e1 e1' e2 e2' e3 e3' e4 hi0
  have HQZ := Lib.hid (show ∀ a, (some ⟨qb, qo, none⟩ : Option Addr) = some a → a.block ≠ gZ from fun a ha => by cases ha; show qb ≠ gZ; omega)
  have h10 := pow_ten hn2
  go_wp2_with fail
  go_loopw [13, 15] (fun v13 v15 wr => ∃ (x k j : Nat) (l : Nat → Int), k ≤ L ∧ v15 = .int .i64 (k : Nat) ∧ v13 = .int .i64 (x : Nat) ∧ x < 2 ^ n ∧ sizeN x ≤ k ∧ j ≤ 2 * k ∧ (∀ s, s < 10 → hasB x s = true → (S : Int) ≤ l s ∧ l s ≤ (S : Int) + 40) ∧ (∀ s, s < 10 → hasB x s = false → l s = 0) ∧ TR w gT gZ gL (.slice (some ⟨qb, qo, none⟩) kn kc) (.slice none 0 0) (.slice none 0 0) L S j l wr) (fun _ v15 _ => L - (intOf v15).toNat)
  case atStart => exact ⟨0, 0, 0, _, Nat.zero_le _, rfl, rfl, Nat.two_pow_pos _, (by rw [zero_st.2.1]; omega), (by omega), (fun s hs h9 => by rw [zero_st.2.2 s hs] at h9; cases h9), (fun _ _ _ => rfl), hTR⟩
  case round =>
    obtain ⟨x, k, j, l, hk, rfl, rfl, hx, hsz, hj, hl1, hl0, hT⟩ := hrel
    have HT := Lib.hid hT
    have HL1 := Lib.hid hl1
    have HL0 := Lib.hid hl0
    have HSZ := Lib.hid hsz
    clear hT hl1 hl0 hsz hTR
    have c1 := HT.out.zT.cell 1 (v := .int .i64 (L : Nat)) rfl
    have c2 := HT.out.zT.lt
    by_cases hkL : k < L
    · have hd1 : decide (k < L) = true := decide_eq_true hkL
      have hd2 : decide ((k : Int) < (L : Int)) = true := decide_eq_true (by omega)
      have HD0 := Lib.hid (draw_any 0 ((n : Int) - 1) gZ w.heap.size j (some ⟨qb, qo, none⟩) kn kc q wr (by omega) (by omega) (by omega) (by omega) hkn hkn2 HT.out.zZ HT.out.z5 (by omega) (fun i hi => (HQ.out i hi).imp_right fun ⟨b9, o9, q1, q2, q3⟩ => ⟨b9, o9, q1, Nat.lt_of_lt_of_le q2 HT.out.low.size, (HT.out.low.cell (p := ⟨b9, o9 + i, none⟩) q2).trans q3⟩) HQZ.out)
      go_wp2_with fail
      refine HD0.out.mono ?_
      rintro e X2 ⟨⟨r, rfl, r0, r1⟩, hz⟩
      obtain ⟨s, rfl⟩ : ∃ s : Nat, r = s := ⟨r.toNat, by omega⟩
      have hs : s < n := by omega
      have hs10 : s < 10 := by omega
      have HT2 := Lib.hid (HT.out.zed hz h3Z nT nL)
      clear hz r0 r1 HD0 HT c1 c2 hd1 hd2
      go_wp2_with fail
      refine (has_b x s _ (by omega) (by omega)).mono ?_
      rintro e X3 ⟨rfl, hb3⟩
      have HT3 := Lib.hid (HT2.out.on hb3)
      clear hb3 HT2
      cases hh : hasB x s
      · have P2 := pow_wrap (n := s) (by omega)
        have hps : 2 ^ s ≤ 512 := by have := Nat.pow_le_pow_right (show 0 < 2 by omega) (show s ≤ 9 by omega); simpa using this
        have hAW : wrap64 ((x : Int) + wrap64 ((2 : Int) ^ s)) = ((x + 2 ^ s : Nat) : Int) := by
          have q9 : ∀ x M : Nat, x < 1024 → M ≤ 512 → wrap64 ((x : Int) + (M : Int)) = ((x + M : Nat) : Int) := fun x M h1 h2 => by unfold wrap64; omega
          rw [P2]; exact q9 x (2 ^ s) (by omega) hps
        have HAW := Lib.hid hAW
        have HHH := Lib.hid hh
        clear P2 hAW hh
        go_wp2_with fail
        have hCC : ∀ A B : World, (∃ j' l', TR w gT gZ gL (.slice (some ⟨qb, qo, none⟩) kn kc) (.slice none 0 0) (.slice none 0 0) L S j' l' A) → Below A.heap.size A B → (∃ j' l', TR w gT gZ gL (.slice (some ⟨qb, qo, none⟩) kn kc) (.slice none 0 0) (.slice none 0 0) L S j' l' B) := fun A B ⟨j', l', h9⟩ h2 => ⟨j', l', h9.on h2⟩
        have hC0 : ∃ j' l', TR w gT gZ gL (.slice (some ⟨qb, qo, none⟩) kn kc) (.slice none 0 0) (.slice none 0 0) L S j' l' X3.drew := ⟨_, _, HT3.out.on (Below.refl _ _).drew⟩
        refine wp_region_garb (fun A => ∃ j' l', TR w gT gZ gL (.slice (some ⟨qb, qo, none⟩) kn kc) (.slice none 0 0) (.slice none 0 0) L S j' l' A) (by kernel_rfl) ?_
        (refine wpAnyG_take (i := 0) hCC hC0 rfl (by kernel_rfl) (by kernel_rfl) (by kernel_rfl) (fun _ _ _ _ h => h) (by rfl) ?_; apply Exists.intro; refine ⟨fun w1 h1 K hK => ?_, ?_⟩; · ( go_big_quiet_op; first | exact hK | fail))
        (refine wpAnyG_take (i := 1) hCC hC0 rfl (by kernel_rfl) (by kernel_rfl) (by kernel_rfl) (fun _ _ _ _ h => h) (by rfl) ?_; apply Exists.intro; refine ⟨fun w1 h1 K hK => ?_, ?_⟩; · ( go_big_quiet_op; first | exact hK | fail))
        (refine wpAnyG_take (i := 2) hCC hC0 rfl (by kernel_rfl) (by kernel_rfl) (by kernel_rfl) (fun _ _ _ _ h => h) (by rfl) ?_; apply Exists.intro; refine ⟨fun w1 h1 K hK => ?_, ?_⟩; · ( go_big_quiet_op; first | exact hK | fail))
        (refine wpAnyG_take (i := 3) hCC hC0 rfl (by kernel_rfl) (by kernel_rfl) (by kernel_rfl) (fun _ _ _ _ h => h) (by rfl) ?_; apply Exists.intro; refine ⟨fun w1 h1 K hK => ?_, ?_⟩; · ( go_big_quiet_op; first | exact hK | fail))
        (refine wpAnyG_take (i := 4) hCC hC0 rfl (by kernel_rfl) (by kernel_rfl) (by kernel_rfl) (fun _ _ _ _ h => h) (by rfl) ?_; apply Exists.intro; refine ⟨fun w1 h1 K hK => ?_, ?_⟩; · ( go_big_quiet_op; first | exact hK | fail))
        (refine wpAnyG_take (i := 5) hCC hC0 rfl (by kernel_rfl) (by kernel_rfl) (by kernel_rfl) (fun _ _ _ _ h => h) (by rfl) ?_; apply Exists.intro; refine ⟨fun w1 h1 K hK => ?_, ?_⟩; · ( go_big_quiet_op; first | exact hK | fail))
        (refine wpAnyG_take (i := 6) hCC hC0 rfl (by kernel_rfl) (by kernel_rfl) (by kernel_rfl) (fun _ _ _ _ h => h) (by rfl) ?_; apply Exists.intro; refine ⟨fun w1 h1 K hK => ?_, ?_⟩; · (have g0 : ∀ W : Aft w1, W.val.cell? ⟨gT, 2, none⟩ = some (.int .i64 (S : Nat)) := fun W => (by obtain ⟨j', l', h9⟩ := hCC _ _ h1 W.below; exact h9.zT.cell 2 rfl); go_big_quiet_op; first | exact hK | fail))
        (refine wpAnyG_take (i := 7) hCC hC0 rfl (by kernel_rfl) (by kernel_rfl) (by kernel_rfl) (fun _ _ _ _ h => h) (by rfl) ?_; apply Exists.intro; refine ⟨fun w1 h1 K hK => ?_, ?_⟩; · ( go_big_quiet_op; first | exact hK | fail))
        rw [HAW.out]
        (refine wpAnyG_one (i := 8) (by kernel_rfl) rfl (by rfl) (fun wa hwa K hK => ?_))
        have hTa := (HT3.out.on (Below.refl _ _).drew).on hwa
        go_simp
        refine (draw_any 0 40 gZ w.heap.size (j + 1) (some ⟨qb, qo, none⟩) kn kc q wa (by omega) (by omega) (by omega) (by omega) hkn hkn2 hTa.zZ hTa.z5 (by omega) (fun i hi => (HQ.out i hi).imp_right fun ⟨b9, o9, q1, q2, q3⟩ => ⟨b9, o9, q1, Nat.lt_of_lt_of_le q2 hTa.low.size, (hTa.low.cell (p := ⟨b9, o9 + i, none⟩) q2).trans q3⟩) HQZ.out).mono ?_
        rintro e wb ⟨⟨r2, rfl, p0, p1⟩, hz⟩
        have hTb := hTa.zed hz h3Z nT nL
        refine hK _ _ ⟨_, _, hTb⟩ ?_
        clear hK K hz hTa hwa hC0
        have hC0 : ∃ j' l', TR w gT gZ gL (.slice (some ⟨qb, qo, none⟩) kn kc) (.slice none 0 0) (.slice none 0 0) L S j' l' wb := ⟨_, _, hTb⟩
        (refine wpAnyG_take (i := 9) hCC hC0 rfl (by kernel_rfl) (by kernel_rfl) (by kernel_rfl) (fun _ _ _ _ h => h) (by rfl) ?_; apply Exists.intro; refine ⟨fun w1 h1 K hK => ?_, ?_⟩; · ( go_big_quiet_op; first | exact hK | fail))
        (refine wpAnyG_one (i := 10) (by kernel_rfl) rfl (by rfl) (fun wc hwc K hK => ?_))
        go_simp
        refine hK _ _ (hCC _ _ hC0 hwc) ?_
        clear hK K
        have hi0 : (0 : Int) ≤ (s : Int) := by omega
        have hi1 : (s : Int) < 10 := by omega
        (refine wpAnyG_one (i := 11) (by kernel_rfl) rfl (by rfl) (fun wd hwd K hK => ?_))
        go_simp
        refine hK _ _ (hCC _ _ (hCC _ _ hC0 hwc) hwd) ?_
        clear hK K
        (refine wpAnyG_one (i := 12) (by kernel_rfl) rfl (by rfl) (fun we hwe K hK => ?_))
        have hTe := ((hTb.on hwc).on hwd).on hwe
        refine wp_store_int hTe.zL rfl rfl rfl (show s < 10 from hs10) (by kernel_rfl) (fun wf zf ho => ?_)
        dsimp only [Act.put]
        rw [cells10_set _ _ hs10] at zf
        have hTf : TR w gT gZ gL (.slice (some ⟨qb, qo, none⟩) kn kc) (.slice none 0 0) (.slice none 0 0) L S (j + 1 + 1) (fun i => if i = s then (S : Int) + r2 else l i) wf := ⟨hTe.low.trans (ho.below (by omega)), ho.box hTe.z5 (by omega), ho.box hTe.z6 (by omega), ho.box hTe.z8 (by omega), ho.box hTe.zT nTL, ho.box hTe.zZ (Ne.symm nL), zf⟩
        refine hK _ _ ⟨_, _, hTf⟩ ?_
        clear hK K
        refine wpAnyG_done (by kernel_rfl) (fun wz hwz => ?_) _
        have HTz := Lib.hid (hTf.on hwz)
        obtain ⟨sz1, sz2⟩ := plus_bit (x := x) (by omega) hs10 HHH.out
        have HS1 := Lib.hid sz1
        have HS2 := Lib.hid sz2
        have HPL := Lib.hid (plus_lt hx hs hn2 HHH.out)
        clear hTf hwz hTe ho zf hwc hwd hwe hTb hC0 hCC sz1 sz2
        go_wp2_with fail
        go_roundw
        case rel => exact ⟨x + 2 ^ s, k + 1, j + 1 + 1, fun i => if i = s then (S : Int) + r2 else l i, by omega, by go_num, rfl, HPL.out, (by have := HSZ.out; rw [HS1.out]; omega), by omega, (fun i hi h9 => by
            rw [HS2.out i hi] at h9
            show (S : Int) ≤ (if i = s then (S : Int) + r2 else l i) ∧ (if i = s then (S : Int) + r2 else l i) ≤ (S : Int) + 40
            by_cases his : i = s
            · rw [if_pos his]; omega
            · rw [if_neg his]; exact HL1.out i hi (by simpa [his] using h9)), (fun i hi h9 => by
            rw [HS2.out i hi] at h9
            show (if i = s then (S : Int) + r2 else l i) = 0
            by_cases his : i = s
            · simp [his] at h9
            · rw [if_neg his]; exact HL0.out i hi (by simpa [his] using h9)), HTz.out⟩
        case measure => simp [intOf]; omega
      · go_wp2_with fail
        go_roundw
        case rel => exact ⟨x, k + 1, j + 1, l, by omega, by go_num, rfl, hx, (by have := HSZ.out; omega), by omega, HL1.out, HL0.out, HT3.out⟩
        case measure => simp [intOf]; omega
    · obtain rfl : k = L := by omega
      have hd1 : decide (k < k) = false := by simp
      have hd2 : decide ((k : Int) < (k : Int)) = false := by simp
      have HLL := Lib.hid (show sizeN x ≤ k from HSZ.out)
      go_wp2_with fail
      go_loopw [17] (fun v17 wr => ∃ (i j : Nat) (u : Nat → Spn) (us : Value), i ≤ n ∧ v17 = .int .i64 (i : Nat) ∧ j ≤ 4 + 2 * i ∧ (∀ c, c < i → 0 ≤ (u c).lo ∧ (u c).lo ≤ (u c).hi ∧ (u c).hi ≤ 16) ∧ wr.ownsRow w.heap.size 37 2 us i (spnNews i u) ∧ TR w gT gZ gL (.slice (some ⟨qb, qo, none⟩) kn kc) us (.slice none 0 0) k S j l wr) (fun v17 _ => n - (intOf v17).toNat)
      case atStart => exact ⟨0, j, fun _ => ⟨0, 0⟩, _, Nat.zero_le _, rfl, (by omega), (fun c hc => by omega), owns_none, HT.out⟩
      case round =>
        obtain ⟨i, j2, u, us, hi, rfl, hj2, hu, hown, hT⟩ := hrel
        have HT9 := Lib.hid hT
        have HO := Lib.hid hown
        have HU := Lib.hid hu
        clear hT hown hu HT c1 c2
        by_cases hin : i < n
        · have hd3 : decide (i < n) = true := decide_eq_true hin
          have hd4 : decide ((i : Int) < (n : Int)) = true := decide_eq_true (by omega)
          have HD0 := Lib.hid (draw_any 0 10 gZ w.heap.size j2 (some ⟨qb, qo, none⟩) kn kc q wr (by omega) (by omega) (by omega) (by omega) hkn hkn2 HT9.out.zZ HT9.out.z5 (by omega) (fun i hi => (HQ.out i hi).imp_right fun ⟨b9, o9, q1, q2, q3⟩ => ⟨b9, o9, q1, Nat.lt_of_lt_of_le q2 HT9.out.low.size, (HT9.out.low.cell (p := ⟨b9, o9 + i, none⟩) q2).trans q3⟩) HQZ.out)
          go_wp2_with fail
          refine HD0.out.mono ?_
          rintro e X2 ⟨⟨lo, rfl, r0, r1⟩, hz⟩
          have HT2 := Lib.hid (HT9.out.zed hz h3Z nT nL)
          have HO2 := Lib.hid (owns_but HO.out ⟨hz.os, hz.tape, hz.output, hz.size, hz.block⟩ (own_ne HO.out HT9.out.zZ (by decide)))
          clear hz HD0 HT9 HO hd3 hd4
          go_wp2_with fail
          obtain ⟨oU, cU, rfl, -⟩ := owns_form HO2.out
          have hP0 : ∀ A B : World, (∃ j' : Nat, TR w gT gZ gL (.slice (some ⟨qb, qo, none⟩) kn kc) (.slice oU i cU) (.slice none 0 0) k S j' l A) → Below A.heap.size A B → (∃ j' : Nat, TR w gT gZ gL (.slice (some ⟨qb, qo, none⟩) kn kc) (.slice oU i cU) (.slice none 0 0) k S j' l B) := fun A B ⟨j', h9⟩ h2 => ⟨j', h9.on h2⟩
          have hP1 : ∀ A B : World, True → Below A.heap.size A B → True := fun _ _ _ _ => trivial
          have hC0 : ∃ j' : Nat, TR w gT gZ gL (.slice (some ⟨qb, qo, none⟩) kn kc) (.slice oU i cU) (.slice none 0 0) k S j' l X2.drew := ⟨_, HT2.out.on (Below.refl _ _).drew⟩
          refine wp_region_phase 11 (fun A => ∃ j' : Nat, TR w gT gZ gL (.slice (some ⟨qb, qo, none⟩) kn kc) (.slice oU i cU) (.slice none 0 0) k S j' l A) (fun _ => True) (by kernel_rfl) ?_
          (refine wpAnyP_take0 (i := 0) hP0 hP1 hC0 (by decide) (by rfl) rfl (by kernel_rfl) rfl (by kernel_rfl) (by kernel_rfl) (by kernel_rfl) (fun _ _ _ _ h => h) (by rfl) ?_; apply Exists.intro; refine ⟨fun w1 h1 K hK => ?_, ?_⟩; · ( go_big_quiet_op; first | exact hK | fail))
          (refine wpAnyP_take0 (i := 1) hP0 hP1 hC0 (by decide) (by rfl) rfl (by kernel_rfl) rfl (by kernel_rfl) (by kernel_rfl) (by kernel_rfl) (fun _ _ _ _ h => h) (by rfl) ?_; apply Exists.intro; refine ⟨fun w1 h1 K hK => ?_, ?_⟩; · (have g0 : ∀ W : Aft w1, W.val.cell? ⟨gT, 0, none⟩ = some (.slice oU i cU) := fun W => (by obtain ⟨j', h9⟩ := hP0 _ _ h1 W.below; exact h9.zT.cell 0 rfl); go_big_quiet_op; first | exact hK | fail))
          (refine wpAnyP_take0 (i := 2) hP0 hP1 hC0 (by decide) (by rfl) rfl (by kernel_rfl) rfl (by kernel_rfl) (by kernel_rfl) (by kernel_rfl) (fun _ _ _ _ h => h) (by rfl) ?_; apply Exists.intro; refine ⟨fun w1 h1 K hK => ?_, ?_⟩; · ( go_big_quiet_op; first | exact hK | fail))
          (refine wpAnyP_take0 (i := 3) hP0 hP1 hC0 (by decide) (by rfl) rfl (by kernel_rfl) rfl (by kernel_rfl) (by kernel_rfl) (by kernel_rfl) (fun _ _ _ _ h => h) (by rfl) ?_; apply Exists.intro; refine ⟨fun w1 h1 K hK => ?_, ?_⟩; · ( go_big_quiet_op; first | exact hK | fail))
          (refine wpAnyP_take0 (i := 4) hP0 hP1 hC0 (by decide) (by rfl) rfl (by kernel_rfl) rfl (by kernel_rfl) (by kernel_rfl) (by kernel_rfl) (fun _ _ _ _ h => h) (by rfl) ?_; apply Exists.intro; refine ⟨fun w1 h1 K hK => ?_, ?_⟩; · ( go_big_quiet_op; first | exact hK | fail))
          (refine wpAnyP_one (i := 5) (by kernel_rfl) rfl (by rfl) (fun wa hwa K hK => ?_))
          have hTa := (HT2.out.on (Below.refl _ _).drew).on hwa
          go_simp
          refine (draw_any 0 6 gZ w.heap.size (j2 + 1) (some ⟨qb, qo, none⟩) kn kc q wa (by omega) (by omega) (by omega) (by omega) hkn hkn2 hTa.zZ hTa.z5 (by omega) (fun i hi => (HQ.out i hi).imp_right fun ⟨b9, o9, q1, q2, q3⟩ => ⟨b9, o9, q1, Nat.lt_of_lt_of_le q2 hTa.low.size, (hTa.low.cell (p := ⟨b9, o9 + i, none⟩) q2).trans q3⟩) HQZ.out).mono ?_
          rintro e wb ⟨⟨r2, rfl, p0, p1⟩, hz⟩
          have hTb := hTa.zed hz h3Z nT nL
          have hO3 := owns_below (owns_below HO2.out ((Below.refl X2.heap.size X2).drew)) hwa
          have hOb := owns_but hO3 ⟨hz.os, hz.tape, hz.output, hz.size, hz.block⟩ (own_ne hO3 hTa.zZ (by decide))
          refine hK _ _ ⟨_, hTb⟩ ?_
          clear hK K hz hTa hwa hC0 hO3
          have hC0 : ∃ j' : Nat, TR w gT gZ gL (.slice (some ⟨qb, qo, none⟩) kn kc) (.slice oU i cU) (.slice none 0 0) k S j' l wb := ⟨_, hTb⟩
          (refine wpAnyP_take0 (i := 6) hP0 hP1 hC0 (by decide) (by rfl) rfl (by kernel_rfl) rfl (by kernel_rfl) (by kernel_rfl) (by kernel_rfl) (fun _ _ _ _ h => h) (by rfl) ?_; apply Exists.intro; refine ⟨fun w1 h1 K hK => ?_, ?_⟩; · ( go_big_quiet_op; first | exact hK | fail))
          (refine wpAnyP_take0 (i := 7) hP0 hP1 hC0 (by decide) (by rfl) rfl (by kernel_rfl) rfl (by kernel_rfl) (by kernel_rfl) (by kernel_rfl) (fun _ _ _ _ h => h) (by rfl) ?_; apply Exists.intro; refine ⟨fun w1 h1 K hK => ?_, ?_⟩; · ( go_big_quiet_op; first | exact hK | exact ⟨_, fun W => aft_call (span_any _ _ _), hK⟩))
          obtain ⟨hx2, hhx⟩ : ∃ y, y = lo + r2 := ⟨_, rfl⟩
          rw [← hhx]
          have p2 : lo ≤ hx2 ∧ hx2 ≤ 16 := by omega
          clear hhx p0 p1
          (refine wpAnyP_one (i := 8) (by kernel_rfl) rfl (by rfl) (fun wc hwc K hK => ?_))
          go_simp
          have hbc := hwc.trans ((below_alloc1 wc (.cells #[.int .i64 lo, .int .i64 hx2] 37)).mono hwc.size)
          have zN := Box.new (g := wc.heap.size) #[.int .i64 lo, .int .i64 hx2] 37 wc rfl
          refine hK _ _ (hP0 _ _ hC0 hbc) ?_
          clear hK K
          have hTc := hTb.on hbc
          have hOc := owns_below hOb hbc
          clear hC0 hTb hOb hwc hbc
          obtain ⟨gN, hG9⟩ : ∃ g, g = wc.heap.size := ⟨_, rfl⟩
          obtain ⟨Y, hY9⟩ : ∃ X, X = wc.alloc (.cells #[.int .i64 lo, .int .i64 hx2] 37) := ⟨_, rfl⟩
          rw [← hG9] at zN ⊢
          rw [← hY9] at zN hTc hOc ⊢
          clear hG9 hY9
          obtain ⟨iU, hiU, hzU0, hzU1, hzU2⟩ := info_parts (P := Tryd.prog) (e := 37) (z := .agg #[.int .i64 0, .int .i64 0]) (size := 2) (bytes := 16) (by kernel_rfl)
          (refine wpAnyP_one (i := 9) (by kernel_rfl) rfl (by rfl) (fun wd hwd K hK => ?_))
          have hTd := hTc.on hwd
          have hOd := owns_below hOc hwd
          have zNd := zN.below hwd
          refine wp_append_gen (.tmp 71) (.tmp 78) 22 rfl w.heap.size 37 iU _ 2 16 Tryd.underlying22 hiU hzU0 hzU1 hzU2 rfl (by omega) (.slice oU i cU) i (spnNews i u) rfl hOd (some ⟨gN, 0, none⟩) 1 1 [.int .i64 lo, .int .i64 hx2] rfl (fun e9 => by cases e9) rfl (fun ad9 e9 j9 u9 hu9 => by cases e9; rw [add_flat, Nat.zero_add]; exact zNd.cell j9 (by rw [List.getElem?_toArray]; exact hu9)) (by simp [Value.oneCell']) (by simp only [maxLen]; omega) (by omega) hTd.low.size (fun vS wS hownS hgrowS => ?_)
          have hTs := hTd.grown hOd hgrowS
          clear hTc hOc hTd hOd zNd zN hgrowS hwd iU hiU hzU0 hzU1 hzU2
          obtain ⟨oV, cV, rfl, -⟩ := owns_form hownS
          go_simp
          refine hK _ _ ⟨_, hTs⟩ ?_
          clear hK K
          (refine wpAnyP_one (i := 10) (by kernel_rfl) rfl (by rfl) (fun wx hwx K hK => ?_))
          go_simp
          refine hK _ _ ⟨_, hTs.on hwx⟩ ?_
          clear hK K
          (refine wpAnyP_one (i := 11) (by kernel_rfl) rfl (by rfl) (fun we hwe K hK => ?_))
          have hTe := (hTs.on hwx).on hwe
          have hOe := owns_below (owns_below hownS hwx) hwe
          refine wp_store_slice hTe.zT rfl rfl rfl (by simp) (by kernel_rfl) (fun wf zf ho => ?_)
          dsimp only [Act.put]
          have hOf := owns_but hOe ho.but (own_ne hOe hTe.zT (by decide))
          have hTf : TR w gT gZ gL (.slice (some ⟨qb, qo, none⟩) kn kc) (.slice oV (i + 1) cV) (.slice none 0 0) k S (j2 + 1 + 1) l wf := ⟨hTe.low.trans (ho.below (by omega)), ho.box hTe.z5 (by omega), ho.box hTe.z6 (by omega), ho.box hTe.z8 (by omega), zf, ho.box hTe.zZ (Ne.symm nT), ho.box hTe.zL (Ne.symm nTL)⟩
          refine hK _ _ trivial ?_
          clear hK K
          refine wpAnyP_done (by kernel_rfl) (fun wz hwz => ?_) _
          have HTz := Lib.hid (hTf.on hwz)
          have HOz := Lib.hid (owns_below hOf hwz)
          clear hTf hOf hOe hTe hTs hownS hwz hwe hwx ho zf hP0 hP1
          go_wp2_with fail
          go_roundw
          case rel => exact ⟨i + 1, j2 + 1 + 1, fun c => if c = i then ⟨lo, hx2⟩ else u c, _, by omega, by go_num, by omega, (fun c hc => by
              show 0 ≤ (if c = i then (⟨lo, hx2⟩ : Spn) else u c).lo ∧ (if c = i then (⟨lo, hx2⟩ : Spn) else u c).lo ≤ (if c = i then (⟨lo, hx2⟩ : Spn) else u c).hi ∧ (if c = i then (⟨lo, hx2⟩ : Spn) else u c).hi ≤ 16
              by_cases hci : c = i
              · rw [if_pos hci]; exact ⟨r0, p2.1, p2.2⟩
              · rw [if_neg hci]; exact HU.out c (by omega)), (by have := HOz.out; rw [spnNews_put i u ⟨lo, hx2⟩] at this; exact this), HTz.out⟩
          case measure => simp [intOf]; omega
        · obtain rfl : i = n := by omega
          have hd3 : decide (i < i) = false := by simp
          have hd4 : decide ((i : Int) < (i : Int)) = false := by simp
          obtain ⟨gU, cU, cur, rfl, hBU, hgU, hsz, hx⟩ := owns_box HO.out (by omega)
          have nU : gU ≠ gZ := own_ne HO.out HT9.out.zZ (by decide) gU rfl
          have nUT : gU ≠ gT := own_ne HO.out HT9.out.zT (by decide) gU rfl
          have HC := Lib.hid (show ∀ c, c < i → cur[c * 2]? = some (.int .i64 (u c).lo) ∧ cur[c * 2 + 1]? = some (.int .i64 (u c).hi) from fun c hc => ⟨take_get hx (spnNews_get (f := u) hc).1, take_get hx (spnNews_get (f := u) hc).2⟩)
          have HTS := Lib.hid (show TS w gT gZ gL gU (.slice (some ⟨qb, qo, none⟩) kn kc) (.slice (some ⟨gU, 0, none⟩) i cU) (.slice none 0 0) cur k S j2 l wr from ⟨HT9.out, hBU⟩)
          clear hsz hx HO hBU HT9
          go_wp2_with fail
          go_loopw [19] (fun v19 wr => ∃ (m j3 : Nat) (s : Nat → Stp) (ss : Value), m ≤ 12 ∧ v19 = .int .i64 (m : Nat) ∧ j3 ≤ 100 + 100 * m ∧ (∀ c, c < m → StepOk u l i (s c)) ∧ wr.ownsRow w.heap.size 49 3 ss m (stpNews m s) ∧ TS w gT gZ gL gU (.slice (some ⟨qb, qo, none⟩) kn kc) (.slice (some ⟨gU, 0, none⟩) i cU) ss cur k S j3 l wr) (fun v19 _ => 12 - (intOf v19).toNat)
          case atStart => exact ⟨0, j2, fun _ => ⟨0, ⟨0, 0⟩⟩, _, by omega, rfl, (by omega), (fun c hc => by omega), owns_none, HTS.out⟩
          case round =>
            obtain ⟨m, j3, s, ss, hm, rfl, hj3, hs9, hown, hT⟩ := hrel
            have HT4 := Lib.hid hT
            have HO4 := Lib.hid hown
            have HS4 := Lib.hid hs9
            clear hT hown hs9 HTS hd3 hd4
            have c5 := HT4.out.tr.z5.cell 0 (v := .slice (some ⟨qb, qo, none⟩) kn kc) rfl
            have c6 := HT4.out.tr.z5.lt
            by_cases hm12 : m < 12
            · have hd3 : decide (m < 12) = true := decide_eq_true hm12
              have hd4 : decide ((m : Int) < 12) = true := decide_eq_true (by omega)
              by_cases hkm : (m : Int) < wrap64 (2 * (kn : Int))
              · have hd5 : decide ((m : Int) < wrap64 (2 * (kn : Int))) = true := decide_eq_true hkm
                have hPW : wrap64 (wrap64 ((2 : Int) ^ i) - 1) = ((2 ^ i - 1 : Nat) : Int) := by
                  rw [pow_wrap hn2]
                  have q9 : ∀ M : Nat, 1 ≤ M → M ≤ 1024 → wrap64 ((M : Int) - 1) = ((M - 1 : Nat) : Int) := fun M h1 h2 => by unfold wrap64; omega
                  exact q9 (2 ^ i) (Nat.two_pow_pos _) h10
                have HPW := Lib.hid hPW
                obtain ⟨M, hM⟩ : ∃ M, M = 2 ^ i - 1 := ⟨_, rfl⟩
                have hM2 : M ≤ 1023 := by omega
                have HPM := Lib.hid (show M < 2 ^ i by have := Nat.two_pow_pos i; omega)
                have HM := Lib.hid hM
                clear hPW hM
                go_wp2_with fail
                rw [HPW.out, ← HM.out]
                refine (draw_any 0 (M : Nat) gZ w.heap.size j3 (some ⟨qb, qo, none⟩) kn kc q wr (by omega) (by omega) (by omega) (by omega) hkn hkn2 HT4.out.tr.zZ HT4.out.tr.z5 (by omega) (fun i hi => (HQ.out i hi).imp_right fun ⟨b9, o9, q1, q2, q3⟩ => ⟨b9, o9, q1, Nat.lt_of_lt_of_le q2 HT4.out.tr.low.size, (HT4.out.tr.low.cell (p := ⟨b9, o9 + i, none⟩) q2).trans q3⟩) HQZ.out).mono ?_
                rintro e X2 ⟨⟨r, rfl, r0, r1⟩, hz⟩
                obtain ⟨sh, rfl⟩ : ∃ s : Nat, r = s := ⟨r.toNat, by omega⟩
                have hT2 := HT4.out.zed hz h3Z nT nL nU
                have hO2 := owns_but HO4.out ⟨hz.os, hz.tape, hz.output, hz.size, hz.block⟩ (own_ne HO4.out HT4.out.tr.zZ (by decide))
                have hsM : sh ≤ M := by omega
                have HSH := Lib.hid (show sh < 2 ^ i by have := HPM.out; omega)
                clear hz HT4 HO4 c5 c6 hd3 hd4 hd5 HPW HPM HM r0 r1
                go_upto_region 22 with fail
                have hT3 := hT2.on (below_alloc1 X2 (.cells #[.int .i64 (sh : Nat), .int .i64 0, .int .i64 0] 49))
                have hO3 := owns_below hO2 (below_alloc1 X2 (.cells #[.int .i64 (sh : Nat), .int .i64 0, .int .i64 0] 49))
                have zP := Box.new (g := X2.heap.size) #[.int .i64 (sh : Nat), .int .i64 0, .int .i64 0] 49 X2 rfl
                have hPO := own_lt hO2
                have hPs : w.heap.size + 3 ≤ X2.heap.size := by have := hT2.tr.zZ.lt; omega
                have nPZ : X2.heap.size ≠ gZ := by have := hT2.tr.zZ.lt; omega
                have nPT : X2.heap.size ≠ gT := by have := hT2.tr.zT.lt; omega
                have nPL : X2.heap.size ≠ gL := by have := hT2.tr.zL.lt; omega
                have nPU : X2.heap.size ≠ gU := by have := hT2.zU.lt; omega
                obtain ⟨X3, hW⟩ : ∃ X, X = X2.alloc (.cells #[.int .i64 (sh : Nat), .int .i64 0, .int .i64 0] 49) := ⟨_, rfl⟩
                rw [← hW] at hT3 hO3 zP ⊢
                clear hW hT2 hO2
                obtain ⟨gP, hG⟩ : ∃ G, G = X2.heap.size := ⟨_, rfl⟩
                rw [← hG] at zP hPO hPs nPZ nPT nPL nPU ⊢
                clear hG
                have HT3 := Lib.hid hT3
                have HO3 := Lib.hid hO3
                have HP3 := Lib.hid zP
                clear hT3 hO3 zP

                go_wp2_with fail
                go_loopw [21, 22] (fun v21 v22 wr => ∃ (c j4 : Nat) (F : Int) (qq : Nat → Int), c ≤ i ∧ v22 = .int .i64 (c : Nat) ∧ v21 = .int .i64 F ∧ j4 ≤ j3 + 1 + c ∧ (∀ b, b < c → (u b).lo ≤ qq b ∧ qq b ≤ (u b).hi) ∧ F = sumO (fun b => l b + qq b) sh c ∧ 0 ≤ F ∧ F ≤ 86 * (c : Int) ∧ wr.ownsRow w.heap.size 49 3 ss m (stpNews m s) ∧ TS w gT gZ gL gU (.slice (some ⟨qb, qo, none⟩) kn kc) (.slice (some ⟨gU, 0, none⟩) i cU) ss cur k S j4 l wr ∧ Box gP #[.int .i64 (sh : Nat), .int .i64 0, .int .i64 0] 49 wr) (fun _ v22 _ => i - (intOf v22).toNat)
                case atStart => exact ⟨0, j3 + 1, 0, fun _ => 0, Nat.zero_le _, rfl, rfl, (by omega), (fun b hb => by omega), rfl, (by omega), (by omega), HO3.out, HT3.out, HP3.out⟩
                case round =>
                  obtain ⟨c, j4, F, qq, hc, rfl, rfl, hj4, hq, hF, hF0, hF1, hown, hT, hP⟩ := hrel
                  have HT5 := Lib.hid hT
                  have HO5 := Lib.hid hown
                  have HP5 := Lib.hid hP
                  have HQ5 := Lib.hid hq
                  have HF5 := Lib.hid hF
                  clear hT hown hP hq hF HT3 HO3 HP3
                  by_cases hci : c < i
                  · have hd3 : decide (c < i) = true := decide_eq_true hci
                    have hd4 : decide ((c : Int) < (i : Int)) = true := decide_eq_true (by omega)
                    have p0 := HP5.out.cell 0 (v := .int .i64 (sh : Nat)) rfl
                    have p1 := HP5.out.lt
                    go_wp2_with fail
                    refine (has_b sh c _ (by omega) (by omega)).mono ?_
                    rintro e X4 ⟨rfl, hb4⟩
                    have HT6 := Lib.hid (HT5.out.on hb4)
                    have HO6 := Lib.hid (owns_below HO5.out hb4)
                    have HP6 := Lib.hid (HP5.out.below hb4)
                    clear hb4 HT5 HO5 HP5 p0 p1 hd3 hd4
                    cases hh : hasB sh c
                    · have HHH := Lib.hid hh
                      clear hh
                      have hc10 : c < 10 := by omega
                      have hlc : 0 ≤ l c ∧ l c ≤ 70 := by
                        cases hxc : hasB x c
                        · have := HL0.out c hc10 hxc; omega
                        · have := HL1.out c hc10 hxc; omega
                      have huc := HU.out c hci
                      obtain ⟨hlc0, hlc1⟩ := hlc
                      obtain ⟨huc0, huc1, huc2⟩ := huc
                      obtain ⟨hcu0, hcu1⟩ := HC.out c hci
                      have hF2 : F ≤ 860 := by omega
                      go_wp2_with fail
                      have hCC : ∀ A B : World, (∃ j', TS w gT gZ gL gU (.slice (some ⟨qb, qo, none⟩) kn kc) (.slice (some ⟨gU, 0, none⟩) i cU) ss cur k S j' l A) → Below A.heap.size A B → (∃ j', TS w gT gZ gL gU (.slice (some ⟨qb, qo, none⟩) kn kc) (.slice (some ⟨gU, 0, none⟩) i cU) ss cur k S j' l B) := fun A B ⟨j', h9⟩ h2 => ⟨j', h9.on h2⟩
                      have hC0 : ∃ j', TS w gT gZ gL gU (.slice (some ⟨qb, qo, none⟩) kn kc) (.slice (some ⟨gU, 0, none⟩) i cU) ss cur k S j' l X4.drew := ⟨_, HT6.out.on (Below.refl _ _).drew⟩
                      have hi0 : (0 : Int) ≤ (c : Int) := by omega
                      have hi1 : (c : Int) < 10 := by omega
                      have hi2 : (c : Int) < (i : Int) := by omega
                      refine wp_region_garb (fun A => ∃ j', TS w gT gZ gL gU (.slice (some ⟨qb, qo, none⟩) kn kc) (.slice (some ⟨gU, 0, none⟩) i cU) ss cur k S j' l A) (by kernel_rfl) ?_
                      (refine wpAnyG_take (i := 0) hCC hC0 rfl (by kernel_rfl) (by kernel_rfl) (by kernel_rfl) (fun _ _ _ _ h => h) (by rfl) ?_; apply Exists.intro; refine ⟨fun w1 h1 K hK => ?_, ?_⟩; · ( go_big_quiet_op; first | exact hK | fail))
                      (refine wpAnyG_take (i := 1) hCC hC0 rfl (by kernel_rfl) (by kernel_rfl) (by kernel_rfl) (fun _ _ _ _ h => h) (by rfl) ?_; apply Exists.intro; refine ⟨fun w1 h1 K hK => ?_, ?_⟩; · ( go_big_quiet_op; first | exact hK | fail))
                      (refine wpAnyG_take (i := 2) hCC hC0 rfl (by kernel_rfl) (by kernel_rfl) (by kernel_rfl) (fun _ _ _ _ h => h) (by rfl) ?_; apply Exists.intro; refine ⟨fun w1 h1 K hK => ?_, ?_⟩; · ( go_big_quiet_op; first | exact hK | fail))
                      (refine wpAnyG_take (i := 3) hCC hC0 rfl (by kernel_rfl) (by kernel_rfl) (by kernel_rfl) (fun _ _ _ _ h => h) (by rfl) ?_; apply Exists.intro; refine ⟨fun w1 h1 K hK => ?_, ?_⟩; · (have g0 : ∀ W : Aft w1, W.val.cell? ⟨gL, c, none⟩ = some (.int .i64 (l c)) := fun W => (by obtain ⟨j', h9⟩ := hCC _ _ h1 W.below; exact h9.tr.zL.cell c (cells10_get hc10)); go_big_quiet_op; first | exact hK | fail))
                      (refine wpAnyG_take (i := 4) hCC hC0 rfl (by kernel_rfl) (by kernel_rfl) (by kernel_rfl) (fun _ _ _ _ h => h) (by rfl) ?_; apply Exists.intro; refine ⟨fun w1 h1 K hK => ?_, ?_⟩; · ( go_big_quiet_op; first | exact hK | fail))
                      (refine wpAnyG_take (i := 5) hCC hC0 rfl (by kernel_rfl) (by kernel_rfl) (by kernel_rfl) (fun _ _ _ _ h => h) (by rfl) ?_; apply Exists.intro; refine ⟨fun w1 h1 K hK => ?_, ?_⟩; · ( go_big_quiet_op; first | exact hK | fail))
                      (refine wpAnyG_take (i := 6) hCC hC0 rfl (by kernel_rfl) (by kernel_rfl) (by kernel_rfl) (fun _ _ _ _ h => h) (by rfl) ?_; apply Exists.intro; refine ⟨fun w1 h1 K hK => ?_, ?_⟩; · ( go_big_quiet_op; first | exact hK | fail))
                      (refine wpAnyG_take (i := 7) hCC hC0 rfl (by kernel_rfl) (by kernel_rfl) (by kernel_rfl) (fun _ _ _ _ h => h) (by rfl) ?_; apply Exists.intro; refine ⟨fun w1 h1 K hK => ?_, ?_⟩; · (have g0 : ∀ W : Aft w1, W.val.cell? ⟨gT, 0, none⟩ = some (.slice (some ⟨gU, 0, none⟩) i cU) := fun W => (by obtain ⟨j', h9⟩ := hCC _ _ h1 W.below; exact h9.tr.zT.cell 0 rfl); go_big_quiet_op; first | exact hK | fail))
                      (refine wpAnyG_take (i := 8) hCC hC0 rfl (by kernel_rfl) (by kernel_rfl) (by kernel_rfl) (fun _ _ _ _ h => h) (by rfl) ?_; apply Exists.intro; refine ⟨fun w1 h1 K hK => ?_, ?_⟩; · ( go_big_quiet_op; first | exact hK | fail))
                      (refine wpAnyG_take (i := 9) hCC hC0 rfl (by kernel_rfl) (by kernel_rfl) (by kernel_rfl) (fun _ _ _ _ h => h) (by rfl) ?_; apply Exists.intro; refine ⟨fun w1 h1 K hK => ?_, ?_⟩; · ( go_big_quiet_op; first | exact hK | fail))
                      (refine wpAnyG_take (i := 10) hCC hC0 rfl (by kernel_rfl) (by kernel_rfl) (by kernel_rfl) (fun _ _ _ _ h => h) (by rfl) ?_; apply Exists.intro; refine ⟨fun w1 h1 K hK => ?_, ?_⟩; · ( go_big_quiet_op; first | exact hK | fail))
                      (refine wpAnyG_take (i := 11) hCC hC0 rfl (by kernel_rfl) (by kernel_rfl) (by kernel_rfl) (fun _ _ _ _ h => h) (by rfl) ?_; apply Exists.intro; refine ⟨fun w1 h1 K hK => ?_, ?_⟩; · (have g0 : ∀ W : Aft w1, W.val.cell? ⟨gU, c * 2, none⟩ = some (.int .i64 (u c).lo) := fun W => (by obtain ⟨j', h9⟩ := hCC _ _ h1 W.below; exact h9.zU.cell _ hcu0); go_big_quiet_op; first | exact hK | fail))
                      (refine wpAnyG_take (i := 12) hCC hC0 rfl (by kernel_rfl) (by kernel_rfl) (by kernel_rfl) (fun _ _ _ _ h => h) (by rfl) ?_; apply Exists.intro; refine ⟨fun w1 h1 K hK => ?_, ?_⟩; · ( go_big_quiet_op; first | exact hK | fail))
                      (refine wpAnyG_take (i := 13) hCC hC0 rfl (by kernel_rfl) (by kernel_rfl) (by kernel_rfl) (fun _ _ _ _ h => h) (by rfl) ?_; apply Exists.intro; refine ⟨fun w1 h1 K hK => ?_, ?_⟩; · (have g0 : ∀ W : Aft w1, W.val.cell? ⟨gT, 0, none⟩ = some (.slice (some ⟨gU, 0, none⟩) i cU) := fun W => (by obtain ⟨j', h9⟩ := hCC _ _ h1 W.below; exact h9.tr.zT.cell 0 rfl); go_big_quiet_op; first | exact hK | fail))
                      (refine wpAnyG_take (i := 14) hCC hC0 rfl (by kernel_rfl) (by kernel_rfl) (by kernel_rfl) (fun _ _ _ _ h => h) (by rfl) ?_; apply Exists.intro; refine ⟨fun w1 h1 K hK => ?_, ?_⟩; · ( go_big_quiet_op; first | exact hK | fail))
                      (refine wpAnyG_take (i := 15) hCC hC0 rfl (by kernel_rfl) (by kernel_rfl) (by kernel_rfl) (fun _ _ _ _ h => h) (by rfl) ?_; apply Exists.intro; refine ⟨fun w1 h1 K hK => ?_, ?_⟩; · ( go_big_quiet_op; first | exact hK | fail))
                      (refine wpAnyG_take (i := 16) hCC hC0 rfl (by kernel_rfl) (by kernel_rfl) (by kernel_rfl) (fun _ _ _ _ h => h) (by rfl) ?_; apply Exists.intro; refine ⟨fun w1 h1 K hK => ?_, ?_⟩; · ( go_big_quiet_op; first | exact hK | fail))
                      (refine wpAnyG_take (i := 17) hCC hC0 rfl (by kernel_rfl) (by kernel_rfl) (by kernel_rfl) (fun _ _ _ _ h => h) (by rfl) ?_; apply Exists.intro; refine ⟨fun w1 h1 K hK => ?_, ?_⟩; · (have g0 : ∀ W : Aft w1, W.val.cell? ⟨gU, c * 2 + 1, none⟩ = some (.int .i64 (u c).hi) := fun W => (by obtain ⟨j', h9⟩ := hCC _ _ h1 W.below; exact h9.zU.cell _ hcu1); go_big_quiet_op; first | exact hK | fail))
                      (refine wpAnyG_one (i := 18) (by kernel_rfl) rfl (by rfl) (fun wa hwa K hK => ?_))
                      have hTa := (HT6.out.on (Below.refl _ _).drew).on hwa
                      have hOa := owns_below (owns_below HO6.out ((Below.refl X4.heap.size X4).drew)) hwa
                      have hPa := (HP6.out.drew).below hwa
                      go_simp
                      refine (draw_any (u c).lo (u c).hi gZ w.heap.size j4 (some ⟨qb, qo, none⟩) kn kc q wa huc1 (by omega) (by omega) (by omega) hkn hkn2 hTa.tr.zZ hTa.tr.z5 (by omega) (fun i hi => (HQ.out i hi).imp_right fun ⟨b9, o9, q1, q2, q3⟩ => ⟨b9, o9, q1, Nat.lt_of_lt_of_le q2 hTa.tr.low.size, (hTa.tr.low.cell (p := ⟨b9, o9 + i, none⟩) q2).trans q3⟩) HQZ.out).mono ?_
                      rintro e wb ⟨⟨r2, rfl, p0, p1⟩, hz⟩
                      have hTb := hTa.zed hz h3Z nT nL nU
                      have hOb := owns_but hOa ⟨hz.os, hz.tape, hz.output, hz.size, hz.block⟩ (own_ne hOa hTa.tr.zZ (by decide))
                      have hPb := hz.old hPa nPZ
                      refine hK _ _ ⟨_, hTb⟩ ?_
                      clear hK K hz hTa hOa hPa hwa hC0
                      have hC0 : ∃ j', TS w gT gZ gL gU (.slice (some ⟨qb, qo, none⟩) kn kc) (.slice (some ⟨gU, 0, none⟩) i cU) ss cur k S j' l wb := ⟨_, hTb⟩
                      (refine wpAnyG_take (i := 19) hCC hC0 rfl (by kernel_rfl) (by kernel_rfl) (by kernel_rfl) (fun _ _ _ _ h => h) (by rfl) ?_; apply Exists.intro; refine ⟨fun w1 h1 K hK => ?_, ?_⟩; · ( go_big_quiet_op; first | exact hK | fail))
                      (refine wpAnyG_one (i := 20) (by kernel_rfl) rfl (by rfl) (fun wc hwc K hK => ?_))
                      go_simp
                      refine hK _ _ (hCC _ _ hC0 hwc) ?_
                      clear hK K
                      refine wpAnyG_done (by kernel_rfl) (fun wz hwz => ?_) _
                      have HT7 := Lib.hid ((hTb.on hwc).on hwz)
                      have HO7 := Lib.hid (owns_below (owns_below hOb hwc) hwz)
                      have HP7 := Lib.hid ((hPb.below hwc).below hwz)
                      clear hwz hwc hC0 hCC hTb hOb hPb HT6 HO6 HP6
                      go_wp2_with fail
                      go_roundw
                      case rel => exact ⟨c + 1, j4 + 1, F + l c + r2, fun b => if b = c then r2 else qq b, by omega, by go_num, rfl, by omega, (flow_step HQ5.out HF5.out ⟨p0, p1⟩).1, (by
                          have := (flow_step HQ5.out HF5.out (show (u c).lo ≤ r2 ∧ r2 ≤ (u c).hi from ⟨p0, p1⟩)).2
                          rw [HHH.out] at this
                          simp only [Bool.false_eq_true, if_false] at this
                          rw [← this]; omega), (by omega), (by omega), HO7.out, HT7.out, HP7.out⟩
                      case measure => simp [intOf]; omega
                    · have HHH := Lib.hid hh
                      clear hh
                      go_wp2_with fail
                      go_roundw
                      case rel => exact ⟨c + 1, j4, F, fun b => if b = c then (u c).lo else qq b, by omega, by go_num, rfl, by omega, (flow_step HQ5.out HF5.out ⟨Int.le_refl _, (HU.out c hci).2.1⟩).1, (by
                          have := (flow_step HQ5.out HF5.out (show (u c).lo ≤ (u c).lo ∧ (u c).lo ≤ (u c).hi from ⟨Int.le_refl _, (HU.out c hci).2.1⟩)).2
                          rw [if_pos HHH.out, Int.add_zero] at this
                          exact this), hF0, (by omega), HO6.out, HT6.out, HP6.out⟩
                      case measure => simp [intOf]; omega
                  · obtain rfl : c = i := by omega
                    have hd3 : decide (c < c) = false := by simp
                    have hd4 : decide ((c : Int) < (c : Int)) = false := by simp
                    have hF2 : F ≤ 860 := by omega
                    go_wp2_with fail
                    refine (draw_any 0 3 gZ w.heap.size j4 (some ⟨qb, qo, none⟩) kn kc q wr (by omega) (by omega) (by omega) (by omega) hkn hkn2 HT5.out.tr.zZ HT5.out.tr.z5 (by omega) (fun i hi => (HQ.out i hi).imp_right fun ⟨b9, o9, q1, q2, q3⟩ => ⟨b9, o9, q1, Nat.lt_of_lt_of_le q2 HT5.out.tr.low.size, (HT5.out.tr.low.cell (p := ⟨b9, o9 + i, none⟩) q2).trans q3⟩) HQZ.out).mono ?_
                    rintro e X4 ⟨⟨r2, rfl, p0, p1⟩, hz⟩
                    have HT6 := Lib.hid (HT5.out.zed hz h3Z nT nL nU)
                    have HO6 := Lib.hid (owns_but HO5.out ⟨hz.os, hz.tape, hz.output, hz.size, hz.block⟩ (own_ne HO5.out HT5.out.tr.zZ (by decide)))
                    have HP6 := Lib.hid (hz.old HP5.out nPZ)
                    clear hz HT5 HO5 HP5 hd3 hd4
                    go_wp2_with fail
                    ·
                      refine (draw_any 0 3 gZ w.heap.size (j4 + 1) (some ⟨qb, qo, none⟩) kn kc q X4 (by omega) (by omega) (by omega) (by omega) hkn hkn2 HT6.out.tr.zZ HT6.out.tr.z5 (by omega) (fun i hi => (HQ.out i hi).imp_right fun ⟨b9, o9, q1, q2, q3⟩ => ⟨b9, o9, q1, Nat.lt_of_lt_of_le q2 HT6.out.tr.low.size, (HT6.out.tr.low.cell (p := ⟨b9, o9 + i, none⟩) q2).trans q3⟩) HQZ.out).mono ?_
                      rintro e X5 ⟨⟨r3, rfl, p2, p3⟩, hz⟩
                      have HT7 := Lib.hid (HT6.out.zed hz h3Z nT nL nU)
                      have HO7 := Lib.hid (owns_but HO6.out ⟨hz.os, hz.tape, hz.output, hz.size, hz.block⟩ (own_ne HO6.out HT6.out.tr.zZ (by decide)))
                      have HP7 := Lib.hid (hz.old HP6.out nPZ)
                      clear hz HT6 HO6 HP6
                      go_wp2_with fail
                      refine (span_any (F - r2) (F + r3) X5).mono ?_
                      rintro e X6 ⟨rfl, hb6⟩
                      have HT8 := Lib.hid (HT7.out.on hb6)
                      have HO8 := Lib.hid (owns_below HO7.out hb6)
                      have HP8 := Lib.hid (HP7.out.below hb6)
                      clear hb6 HT7 HO7 HP7
                      have s1 := HP8.out.cell 1 (v := .int .i64 0) rfl
                      have s2 := HP8.out.cell 2 (v := .int .i64 0) rfl
                      have s3 := HP8.out.lt
                      have s4 := HP8.out.frozen 1
                      have s5 := HP8.out.frozen 2
                      go_upto_region 29 with fail
                      have zP9 : Box gP #[.int .i64 (sh : Nat), .int .i64 (F - r2), .int .i64 (F + r3)] 49 ((X6.setCell ⟨gP, 1, none⟩ (.int .i64 (F - r2))).setCell ⟨gP, 2, none⟩ (.int .i64 (F + r3))) := (HP8.out.set 1 (.int .i64 (F - r2))).set 2 (.int .i64 (F + r3))
                      have ho9 := ((Only.refl gP X6).setCell 1 (.int .i64 (F - r2))).setCell 2 (.int .i64 (F + r3))
                      have hT9 : TS w gT gZ gL gU (.slice (some ⟨qb, qo, none⟩) kn kc) (.slice (some ⟨gU, 0, none⟩) c cU) ss cur k S (j4 + 1 + 1) l ((X6.setCell ⟨gP, 1, none⟩ (.int .i64 (F - r2))).setCell ⟨gP, 2, none⟩ (.int .i64 (F + r3))) := ⟨⟨HT8.out.tr.low.trans (ho9.below (by omega)), ho9.box HT8.out.tr.z5 (by omega), ho9.box HT8.out.tr.z6 (by omega), ho9.box HT8.out.tr.z8 (by omega), ho9.box HT8.out.tr.zT (Ne.symm nPT), ho9.box HT8.out.tr.zZ (Ne.symm nPZ), ho9.box HT8.out.tr.zL (Ne.symm nPL)⟩, ho9.box HT8.out.zU (Ne.symm nPU)⟩
                      have hO9 := owns_but HO8.out ho9.but (fun b hb e9 => by have := hPO b hb; omega)
                      obtain ⟨X7, hW⟩ : ∃ X, X = ((X6.setCell ⟨gP, 1, none⟩ (.int .i64 (F - r2))).setCell ⟨gP, 2, none⟩ (.int .i64 (F + r3))) := ⟨_, rfl⟩
                      rw [← hW] at zP9 hT9 hO9 ⊢
                      clear hW ho9 s1 s2 s3 s4 s5 HT8 HO8 HP8
                      obtain ⟨oS, cS, rfl, -⟩ := owns_form hO9
                      have HT9 := Lib.hid hT9
                      have HO9 := Lib.hid hO9
                      have a0 := hT9.tr.zT.cell 3 (v := .slice oS m cS) rfl
                      have a1 := hT9.tr.zT.lt
                      have b0 := zP9.cell 0 (v := .int .i64 (sh : Nat)) rfl
                      have b1 := zP9.cell 1 (v := .int .i64 (F - r2)) rfl
                      have b2 := zP9.cell 2 (v := .int .i64 (F + r3)) rfl
                      have b3 := zP9.lt
                      clear hT9 hO9 zP9
                      obtain ⟨iR, hiR, hzR0, hzR1, hzR2⟩ := info_parts (P := Tryd.prog) (e := 49) (z := .agg #[.int .i64 0, .int .i64 0, .int .i64 0]) (size := 3) (bytes := 24) (by kernel_rfl)
                      have HOE := Lib.hid (owns_below HO9.out (below_alloc1 X7 (.cells #[.int .i64 (sh : Nat), .int .i64 (F - r2), .int .i64 (F + r3)] 49)))
                      have HTE := Lib.hid (HT9.out.on (below_alloc1 X7 (.cells #[.int .i64 (sh : Nat), .int .i64 (F - r2), .int .i64 (F + r3)] 49)))
                      have HNW := Lib.hid (show ∀ ad, some (⟨X7.heap.size, 0, none⟩ : Addr) = some ad → ∀ j9 u9, ([.int .i64 (sh : Nat), .int .i64 (F - r2), .int .i64 (F + r3)] : List Value)[j9]? = some u9 → (X7.alloc (.cells #[.int .i64 (sh : Nat), .int .i64 (F - r2), .int .i64 (F + r3)] 49)).cell? (ad.add j9) = some u9 from fun ad9 e9 j9 u9 hu9 => by cases e9; rw [add_flat, Nat.zero_add]; exact (Box.new #[.int .i64 (sh : Nat), .int .i64 (F - r2), .int .i64 (F + r3)] 49 X7 rfl).cell j9 (by rw [List.getElem?_toArray]; exact hu9))
                      go_wp2_with (at_builtin; (refine wpList_append_gen rfl (.tmp 140) (.tmp 142) 23 rfl w.heap.size 49 iR _ 3 24 Tryd.underlying23 hiR hzR0 hzR1 hzR2 rfl (by omega) (.slice oS m cS) m (stpNews m s) rfl (some ⟨X7.heap.size, 0, none⟩) 1 1 [.int .i64 (sh : Nat), .int .i64 (F - r2), .int .i64 (F + r3)] rfl HOE.out (fun e9 => by cases e9) rfl HNW.out (by simp [Value.oneCell']) (by simp only [maxLen]; omega) (by omega) HTE.out.tr.low.size ?_; intro vS wS hownS hgrowS; have hTG := HTE.out.grown HOE.out hgrowS; clear hgrowS; obtain ⟨oV, cV, rfl, -⟩ := owns_form hownS; have HTG := Lib.hid hTG; have HOG := Lib.hid hownS; have d0 := hTG.tr.zT.cell 3 (v := .slice oS m cS) rfl; have d1 := hTG.tr.zT.lt; have d2 := hTG.tr.zT.frozen 3; clear hTG hownS))
                      have ho8 := (Only.refl gT wS).setCell 3 (.slice oV (m + 1) cV)
                      have HTF := Lib.hid (show TS w gT gZ gL gU (.slice (some ⟨qb, qo, none⟩) kn kc) (.slice (some ⟨gU, 0, none⟩) c cU) (.slice oV (m + 1) cV) cur k S (j4 + 1 + 1) l (wS.setCell ⟨gT, 3, none⟩ (.slice oV (m + 1) cV)) from ⟨⟨HTG.out.tr.low.trans (ho8.below (by omega)), ho8.box HTG.out.tr.z5 (by omega), ho8.box HTG.out.tr.z6 (by omega), ho8.box HTG.out.tr.z8 (by omega), HTG.out.tr.zT.set 3 (.slice oV (m + 1) cV), ho8.box HTG.out.tr.zZ (Ne.symm nT), ho8.box HTG.out.tr.zL (Ne.symm nTL)⟩, ho8.box HTG.out.zU nUT⟩)
                      have HOF := Lib.hid (owns_but HOG.out ho8.but (own_ne HOG.out HTG.out.tr.zT (by decide)))
                      go_roundw
                      case rel => exact ⟨m + 1, j4 + 1 + 1, fun c' => if c' = m then ⟨(sh : Nat), ⟨(F - r2), F + r3⟩⟩ else s c', _, by omega, by go_num, by omega, steps_put HS4.out ⟨F, sh, qq, rfl, HSH.out, HQ5.out, HF5.out, by show (0 : Int) ≤ (F - r2); omega, by show (F - r2) ≤ F; omega, by show F ≤ F + r3; omega, by show F + r3 ≤ 1000000; omega⟩, (by have := HOF.out; rw [stpNews_put m s ⟨(sh : Nat), ⟨(F - r2), F + r3⟩⟩] at this; exact this), HTF.out⟩
                      case measure => simp [intOf]; omega
                    ·
                      refine (draw_any 0 3 gZ w.heap.size (j4 + 1) (some ⟨qb, qo, none⟩) kn kc q X4 (by omega) (by omega) (by omega) (by omega) hkn hkn2 HT6.out.tr.zZ HT6.out.tr.z5 (by omega) (fun i hi => (HQ.out i hi).imp_right fun ⟨b9, o9, q1, q2, q3⟩ => ⟨b9, o9, q1, Nat.lt_of_lt_of_le q2 HT6.out.tr.low.size, (HT6.out.tr.low.cell (p := ⟨b9, o9 + i, none⟩) q2).trans q3⟩) HQZ.out).mono ?_
                      rintro e X5 ⟨⟨r3, rfl, p2, p3⟩, hz⟩
                      have HT7 := Lib.hid (HT6.out.zed hz h3Z nT nL nU)
                      have HO7 := Lib.hid (owns_but HO6.out ⟨hz.os, hz.tape, hz.output, hz.size, hz.block⟩ (own_ne HO6.out HT6.out.tr.zZ (by decide)))
                      have HP7 := Lib.hid (hz.old HP6.out nPZ)
                      clear hz HT6 HO6 HP6
                      go_wp2_with fail
                      refine (span_any 0 (F + r3) X5).mono ?_
                      rintro e X6 ⟨rfl, hb6⟩
                      have HT8 := Lib.hid (HT7.out.on hb6)
                      have HO8 := Lib.hid (owns_below HO7.out hb6)
                      have HP8 := Lib.hid (HP7.out.below hb6)
                      clear hb6 HT7 HO7 HP7
                      have s1 := HP8.out.cell 1 (v := .int .i64 0) rfl
                      have s2 := HP8.out.cell 2 (v := .int .i64 0) rfl
                      have s3 := HP8.out.lt
                      have s4 := HP8.out.frozen 1
                      have s5 := HP8.out.frozen 2
                      go_upto_region 29 with fail
                      have zP9 : Box gP #[.int .i64 (sh : Nat), .int .i64 0, .int .i64 (F + r3)] 49 ((X6.setCell ⟨gP, 1, none⟩ (.int .i64 0)).setCell ⟨gP, 2, none⟩ (.int .i64 (F + r3))) := (HP8.out.set 1 (.int .i64 0)).set 2 (.int .i64 (F + r3))
                      have ho9 := ((Only.refl gP X6).setCell 1 (.int .i64 0)).setCell 2 (.int .i64 (F + r3))
                      have hT9 : TS w gT gZ gL gU (.slice (some ⟨qb, qo, none⟩) kn kc) (.slice (some ⟨gU, 0, none⟩) c cU) ss cur k S (j4 + 1 + 1) l ((X6.setCell ⟨gP, 1, none⟩ (.int .i64 0)).setCell ⟨gP, 2, none⟩ (.int .i64 (F + r3))) := ⟨⟨HT8.out.tr.low.trans (ho9.below (by omega)), ho9.box HT8.out.tr.z5 (by omega), ho9.box HT8.out.tr.z6 (by omega), ho9.box HT8.out.tr.z8 (by omega), ho9.box HT8.out.tr.zT (Ne.symm nPT), ho9.box HT8.out.tr.zZ (Ne.symm nPZ), ho9.box HT8.out.tr.zL (Ne.symm nPL)⟩, ho9.box HT8.out.zU (Ne.symm nPU)⟩
                      have hO9 := owns_but HO8.out ho9.but (fun b hb e9 => by have := hPO b hb; omega)
                      obtain ⟨X7, hW⟩ : ∃ X, X = ((X6.setCell ⟨gP, 1, none⟩ (.int .i64 0)).setCell ⟨gP, 2, none⟩ (.int .i64 (F + r3))) := ⟨_, rfl⟩
                      rw [← hW] at zP9 hT9 hO9 ⊢
                      clear hW ho9 s1 s2 s3 s4 s5 HT8 HO8 HP8
                      obtain ⟨oS, cS, rfl, -⟩ := owns_form hO9
                      have HT9 := Lib.hid hT9
                      have HO9 := Lib.hid hO9
                      have a0 := hT9.tr.zT.cell 3 (v := .slice oS m cS) rfl
                      have a1 := hT9.tr.zT.lt
                      have b0 := zP9.cell 0 (v := .int .i64 (sh : Nat)) rfl
                      have b1 := zP9.cell 1 (v := .int .i64 0) rfl
                      have b2 := zP9.cell 2 (v := .int .i64 (F + r3)) rfl
                      have b3 := zP9.lt
                      clear hT9 hO9 zP9
                      obtain ⟨iR, hiR, hzR0, hzR1, hzR2⟩ := info_parts (P := Tryd.prog) (e := 49) (z := .agg #[.int .i64 0, .int .i64 0, .int .i64 0]) (size := 3) (bytes := 24) (by kernel_rfl)
                      have HOE := Lib.hid (owns_below HO9.out (below_alloc1 X7 (.cells #[.int .i64 (sh : Nat), .int .i64 0, .int .i64 (F + r3)] 49)))
                      have HTE := Lib.hid (HT9.out.on (below_alloc1 X7 (.cells #[.int .i64 (sh : Nat), .int .i64 0, .int .i64 (F + r3)] 49)))
                      have HNW := Lib.hid (show ∀ ad, some (⟨X7.heap.size, 0, none⟩ : Addr) = some ad → ∀ j9 u9, ([.int .i64 (sh : Nat), .int .i64 0, .int .i64 (F + r3)] : List Value)[j9]? = some u9 → (X7.alloc (.cells #[.int .i64 (sh : Nat), .int .i64 0, .int .i64 (F + r3)] 49)).cell? (ad.add j9) = some u9 from fun ad9 e9 j9 u9 hu9 => by cases e9; rw [add_flat, Nat.zero_add]; exact (Box.new #[.int .i64 (sh : Nat), .int .i64 0, .int .i64 (F + r3)] 49 X7 rfl).cell j9 (by rw [List.getElem?_toArray]; exact hu9))
                      go_wp2_with (at_builtin; (refine wpList_append_gen rfl (.tmp 140) (.tmp 142) 23 rfl w.heap.size 49 iR _ 3 24 Tryd.underlying23 hiR hzR0 hzR1 hzR2 rfl (by omega) (.slice oS m cS) m (stpNews m s) rfl (some ⟨X7.heap.size, 0, none⟩) 1 1 [.int .i64 (sh : Nat), .int .i64 0, .int .i64 (F + r3)] rfl HOE.out (fun e9 => by cases e9) rfl HNW.out (by simp [Value.oneCell']) (by simp only [maxLen]; omega) (by omega) HTE.out.tr.low.size ?_; intro vS wS hownS hgrowS; have hTG := HTE.out.grown HOE.out hgrowS; clear hgrowS; obtain ⟨oV, cV, rfl, -⟩ := owns_form hownS; have HTG := Lib.hid hTG; have HOG := Lib.hid hownS; have d0 := hTG.tr.zT.cell 3 (v := .slice oS m cS) rfl; have d1 := hTG.tr.zT.lt; have d2 := hTG.tr.zT.frozen 3; clear hTG hownS))
                      have ho8 := (Only.refl gT wS).setCell 3 (.slice oV (m + 1) cV)
                      have HTF := Lib.hid (show TS w gT gZ gL gU (.slice (some ⟨qb, qo, none⟩) kn kc) (.slice (some ⟨gU, 0, none⟩) c cU) (.slice oV (m + 1) cV) cur k S (j4 + 1 + 1) l (wS.setCell ⟨gT, 3, none⟩ (.slice oV (m + 1) cV)) from ⟨⟨HTG.out.tr.low.trans (ho8.below (by omega)), ho8.box HTG.out.tr.z5 (by omega), ho8.box HTG.out.tr.z6 (by omega), ho8.box HTG.out.tr.z8 (by omega), HTG.out.tr.zT.set 3 (.slice oV (m + 1) cV), ho8.box HTG.out.tr.zZ (Ne.symm nT), ho8.box HTG.out.tr.zL (Ne.symm nTL)⟩, ho8.box HTG.out.zU nUT⟩)
                      have HOF := Lib.hid (owns_but HOG.out ho8.but (own_ne HOG.out HTG.out.tr.zT (by decide)))
                      go_roundw
                      case rel => exact ⟨m + 1, j4 + 1 + 1, fun c' => if c' = m then ⟨(sh : Nat), ⟨0, F + r3⟩⟩ else s c', _, by omega, by go_num, by omega, steps_put HS4.out ⟨F, sh, qq, rfl, HSH.out, HQ5.out, HF5.out, by show (0 : Int) ≤ 0; omega, by show 0 ≤ F; omega, by show F ≤ F + r3; omega, by show F + r3 ≤ 1000000; omega⟩, (by have := HOF.out; rw [stpNews_put m s ⟨(sh : Nat), ⟨0, F + r3⟩⟩] at this; exact this), HTF.out⟩
                      case measure => simp [intOf]; omega
              · have hd5 : decide ((m : Int) < wrap64 (2 * (kn : Int))) = false := decide_eq_false hkm
                go_wp2_with fail
                obtain ⟨oS, cS, rfl, hst⟩ := owns_stps HO4.out
                have HST := Lib.hid hst
                clear hst
                have HT5 := HT4.out.on (Below.refl _ _).drew
                have HB5 := HST.out.mono (Below.refl _ _).drew
                obtain ⟨y6, hy6⟩ : ∃ g, g = w.heap.size + 1 := ⟨_, rfl⟩
                obtain ⟨y8, hy8⟩ : ∃ g, g = w.heap.size + 1 + 1 := ⟨_, rfl⟩
                have z6 := HT5.tr.z6
                have z8 := HT5.tr.z8
                rw [← hy8] at z8 ⊢
                rw [← hy6] at z6 ⊢
                have n6T : gT ≠ y6 := by omega
                have n6L : gL ≠ y6 := by omega
                have n68 : y8 ≠ y6 := by omega
                have n8T : gT ≠ y8 := by omega
                have n8L : gL ≠ y8 := by omega
                have l6 : w.heap.size ≤ y6 := by omega
                have l8 : w.heap.size ≤ y8 := by omega
                have n6U : gU ≠ y6 := own_ne0 HT5.zU z6 (by decide)
                have n8U : gU ≠ y8 := own_ne0 HT5.zU z8 (by decide)
                clear hy6 hy8
                have HO5 := owns_below HO4.out ((Below.refl wr.heap.size wr).drew)
                have hCC : ∀ A B : World, Same (fun b => b ≠ y6 ∧ b ≠ y8) wr.drew A → Below A.heap.size A B → Same (fun b => b ≠ y6 ∧ b ≠ y8) wr.drew B := fun A B h1 h2 => h1.trans (Same.of_below h2 fun _ hk _ => hk)
                have hC0 : Same (fun b => b ≠ y6 ∧ b ≠ y8) wr.drew wr.drew := Same.refl _ _
                have hTT := HT5.tr.zT
                have hLL := HT5.tr.zL
                refine wp_region_garb (Same (fun b => b ≠ y6 ∧ b ≠ y8) wr.drew) (by kernel_rfl) ?_
                (refine wpAnyG_take (i := 0) hCC hC0 rfl (by kernel_rfl) (by kernel_rfl) (by kernel_rfl) (fun _ _ _ _ h => h) (by rfl) ?_; apply Exists.intro; refine ⟨fun w1 h1 K hK => ?_, ?_⟩; · (have zT9 : ∀ W : Aft w1, Box gT #[.slice (some ⟨gU, 0, none⟩) i cU, .int .i64 (k : Nat), .int .i64 (S : Nat), .slice oS m cS] 25 W.val := fun W => hTT.same (hCC _ _ h1 W.below) ⟨n6T, n8T⟩; have g0 : ∀ W : Aft w1, W.val.cell? ⟨gT, 0, none⟩ = some (.slice (some ⟨gU, 0, none⟩) i cU) := fun W => (zT9 W).cell 0 rfl; have g1 : ∀ W : Aft w1, W.val.cell? ⟨gT, 1, none⟩ = some (.int .i64 (k : Nat)) := fun W => (zT9 W).cell 1 rfl; have g2 : ∀ W : Aft w1, W.val.cell? ⟨gT, 2, none⟩ = some (.int .i64 (S : Nat)) := fun W => (zT9 W).cell 2 rfl; have g3 : ∀ W : Aft w1, W.val.cell? ⟨gT, 3, none⟩ = some (.slice oS m cS) := fun W => (zT9 W).cell 3 rfl; clear zT9; go_big_quiet_op; first | exact hK | fail))
                (refine wpAnyG_take (i := 1) hCC hC0 rfl (by kernel_rfl) (by kernel_rfl) (by kernel_rfl) (fun _ _ _ _ h => h) (by rfl) ?_; apply Exists.intro; refine ⟨fun w1 h1 K hK => ?_, ?_⟩; · ( go_big_quiet_op; first | exact hK | fail))
                (refine wpAnyG_take (i := 2) hCC hC0 rfl (by kernel_rfl) (by kernel_rfl) (by kernel_rfl) (fun _ _ _ _ h => h) (by rfl) ?_; apply Exists.intro; refine ⟨fun w1 h1 K hK => ?_, ?_⟩; · (have zL9 : ∀ W : Aft w1, Box gL (cells10 l) 42 W.val := fun W => hLL.same (hCC _ _ h1 W.below) ⟨n6L, n8L⟩; have g0 : ∀ W : Aft w1, W.val.cell? ⟨gL, 0, none⟩ = some (.int .i64 (l 0)) := fun W => (zL9 W).cell 0 rfl; have g1 : ∀ W : Aft w1, W.val.cell? ⟨gL, 1, none⟩ = some (.int .i64 (l 1)) := fun W => (zL9 W).cell 1 rfl; have g2 : ∀ W : Aft w1, W.val.cell? ⟨gL, 2, none⟩ = some (.int .i64 (l 2)) := fun W => (zL9 W).cell 2 rfl; have g3 : ∀ W : Aft w1, W.val.cell? ⟨gL, 3, none⟩ = some (.int .i64 (l 3)) := fun W => (zL9 W).cell 3 rfl; have g4 : ∀ W : Aft w1, W.val.cell? ⟨gL, 4, none⟩ = some (.int .i64 (l 4)) := fun W => (zL9 W).cell 4 rfl; have g5 : ∀ W : Aft w1, W.val.cell? ⟨gL, 5, none⟩ = some (.int .i64 (l 5)) := fun W => (zL9 W).cell 5 rfl; have g6 : ∀ W : Aft w1, W.val.cell? ⟨gL, 6, none⟩ = some (.int .i64 (l 6)) := fun W => (zL9 W).cell 6 rfl; have g7 : ∀ W : Aft w1, W.val.cell? ⟨gL, 7, none⟩ = some (.int .i64 (l 7)) := fun W => (zL9 W).cell 7 rfl; have g8 : ∀ W : Aft w1, W.val.cell? ⟨gL, 8, none⟩ = some (.int .i64 (l 8)) := fun W => (zL9 W).cell 8 rfl; have g9 : ∀ W : Aft w1, W.val.cell? ⟨gL, 9, none⟩ = some (.int .i64 (l 9)) := fun W => (zL9 W).cell 9 rfl; clear zL9; go_big_quiet_op; first | exact hK | fail))
                (refine wpAnyG_one (i := 3) (by kernel_rfl) rfl (by rfl) (fun wa hwa K hK => ?_))
                have T1 := HT5.on hwa
                have O1 := owns_below HO5 hwa
                have z6a := z6.below hwa
                have z8a := z8.below hwa
                refine wp_store_box (z6a) rfl rfl rfl rfl (by kernel_rfl) (by simp [Value.oneCell']) (fun wb s6 ho => ?_); dsimp only [Act.put]
                have low2 := T1.tr.low.trans (ho.below l6)
                have O2 := owns_but O1 ho.but (own_ne O1 z6a (by decide))
                have U2 := ho.box T1.zU n6U
                have z8b := ho.box z8a n68
                have hCb : Same (fun b => b ≠ y6 ∧ b ≠ y8) wr.drew wb := (hCC _ _ hC0 hwa).trans ⟨ho.os, ho.tape, ho.output, Nat.le_of_eq ho.size.symm, fun b _ hp => ho.block b hp.1⟩
                refine hK _ _ hCb ?_
                clear hK K ho T1 O1 z6a z8a hwa hC0
                (refine wpAnyG_one (i := 4) (by kernel_rfl) rfl (by rfl) (fun wc hwc K hK => ?_))
                go_simp
                refine hK _ _ (hCC _ _ hCb hwc) ?_
                clear hK K
                (refine wpAnyG_one (i := 5) (by kernel_rfl) rfl (by rfl) (fun wd hwd K hK => ?_))
                have hbd := hwc.trans (hwd.mono hwc.size)
                have z8d := z8b.below hbd
                have O3 := owns_below O2 hbd
                have hCd := hCC _ _ (hCC _ _ hCb hwc) hwd
                refine wp_store_box z8d rfl rfl (show _ = Value.agg (cells10 l) from rfl) rfl (by kernel_rfl) (by simp [cells10, Value.oneCell']) (fun we s8 ho => ?_)
                dsimp only [Act.put]
                have low3 := (low2.trans (hbd.mono low2.size)).trans (ho.below l8)
                have O4 := owns_but O3 ho.but (own_ne O3 z8d (by decide))
                have U4 := ho.box (U2.below hbd) n8U
                have s6e := ho.box (s6.below hbd) (Ne.symm n68)
                have hCe : Same (fun b => b ≠ y6 ∧ b ≠ y8) wr.drew we := hCd.trans ⟨ho.os, ho.tape, ho.output, Nat.le_of_eq ho.size.symm, fun b _ hp => ho.block b hp.2⟩
                refine hK _ _ hCe ?_
                clear hK K
                refine wpAnyG_done (by kernel_rfl) (fun wz hwz => ?_) _
                have HLOW := Lib.hid (low3.trans (hwz.mono low3.size))
                have HOZ := Lib.hid (owns_below O4 hwz)
                have HUZ := Lib.hid (U4.below hwz)
                have H6Z := Lib.hid (s6e.below hwz)
                have H8Z := Lib.hid (s8.below hwz)
                clear low3 low2 O2 O3 O4 U2 U4 s6 s6e s8 z8b z8d z6 z8 hbd hwc hwd hwz ho hCb hCd hCe HT5 HB5 HO5 hTT hLL hCC hd3
                have r0 := H6Z.out.cell 0 rfl
                have r1 := H6Z.out.cell 1 rfl
                have r2 := H6Z.out.cell 2 rfl
                have r3 := H6Z.out.cell 3 rfl
                have t0 := H8Z.out.cell 0 (v := .int .i64 (l 0)) rfl
                have t1 := H8Z.out.cell 1 (v := .int .i64 (l 1)) rfl
                have t2 := H8Z.out.cell 2 (v := .int .i64 (l 2)) rfl
                have t3 := H8Z.out.cell 3 (v := .int .i64 (l 3)) rfl
                have t4 := H8Z.out.cell 4 (v := .int .i64 (l 4)) rfl
                have t5 := H8Z.out.cell 5 (v := .int .i64 (l 5)) rfl
                have t6 := H8Z.out.cell 6 (v := .int .i64 (l 6)) rfl
                have t7 := H8Z.out.cell 7 (v := .int .i64 (l 7)) rfl
                have t8 := H8Z.out.cell 8 (v := .int .i64 (l 8)) rfl
                have t9 := H8Z.out.cell 9 (v := .int .i64 (l 9)) rfl
                go_wp2_with fail
                refine bodyPost_ret (v := .tuple #[.agg #[.slice (some ⟨gU, 0, none⟩) i cU, .int .i64 (k : Nat), .int .i64 (S : Nat), .slice oS m cS], .int .i64 (x : Nat), .agg (cells10 l)]) (by simp [results, Tryd.results20, go_sem, r0, r1, r2, r3, t0, t1, t2, t3, t4, t5, t6, t7, t8, t9, cells10]) rfl ?_
                obtain ⟨hv9, ht9⟩ := truth_valid (n := i) (k := k) (S := S) (m := m) (x := x) hn1 hn2 hL2 hS1 hS2 (by omega) hx HLL.out HL1.out HL0.out HU.out HS4.out
                obtain ⟨oV, cV, e9, hst9⟩ := owns_stps HOZ.out
                cases e9
                exact ⟨⟨⟨i, u, (k : Nat), (S : Nat), m, s⟩, x, l, some ⟨gU, 0, none⟩, cU, oS, cS, rfl, hv9, ht9, fun c hc => ⟨gU, 0, rfl, HUZ.out.lt, by rw [Nat.zero_add]; exact HUZ.out.cell _ (HC.out c hc).1, by rw [Nat.zero_add]; exact HUZ.out.cell _ (HC.out c hc).2⟩, hst9⟩, HLOW.out⟩
            · obtain rfl : 12 = m := by omega
              have hd3 : decide (12 < 12) = false := by simp
              go_wp2_with fail
              obtain ⟨oS, cS, rfl, hst⟩ := owns_stps HO4.out
              have HST := Lib.hid hst
              clear hst
              have HT5 := HT4.out.on (Below.refl _ _).drew
              have HB5 := HST.out.mono (Below.refl _ _).drew
              obtain ⟨y6, hy6⟩ : ∃ g, g = w.heap.size + 1 := ⟨_, rfl⟩
              obtain ⟨y8, hy8⟩ : ∃ g, g = w.heap.size + 1 + 1 := ⟨_, rfl⟩
              have z6 := HT5.tr.z6
              have z8 := HT5.tr.z8
              rw [← hy8] at z8 ⊢
              rw [← hy6] at z6 ⊢
              have n6T : gT ≠ y6 := by omega
              have n6L : gL ≠ y6 := by omega
              have n68 : y8 ≠ y6 := by omega
              have n8T : gT ≠ y8 := by omega
              have n8L : gL ≠ y8 := by omega
              have l6 : w.heap.size ≤ y6 := by omega
              have l8 : w.heap.size ≤ y8 := by omega
              have n6U : gU ≠ y6 := own_ne0 HT5.zU z6 (by decide)
              have n8U : gU ≠ y8 := own_ne0 HT5.zU z8 (by decide)
              clear hy6 hy8
              have HO5 := owns_below HO4.out ((Below.refl wr.heap.size wr).drew)
              have hCC : ∀ A B : World, Same (fun b => b ≠ y6 ∧ b ≠ y8) wr.drew A → Below A.heap.size A B → Same (fun b => b ≠ y6 ∧ b ≠ y8) wr.drew B := fun A B h1 h2 => h1.trans (Same.of_below h2 fun _ hk _ => hk)
              have hC0 : Same (fun b => b ≠ y6 ∧ b ≠ y8) wr.drew wr.drew := Same.refl _ _
              have hTT := HT5.tr.zT
              have hLL := HT5.tr.zL
              refine wp_region_garb (Same (fun b => b ≠ y6 ∧ b ≠ y8) wr.drew) (by kernel_rfl) ?_
              (refine wpAnyG_take (i := 0) hCC hC0 rfl (by kernel_rfl) (by kernel_rfl) (by kernel_rfl) (fun _ _ _ _ h => h) (by rfl) ?_; apply Exists.intro; refine ⟨fun w1 h1 K hK => ?_, ?_⟩; · (have zT9 : ∀ W : Aft w1, Box gT #[.slice (some ⟨gU, 0, none⟩) i cU, .int .i64 (k : Nat), .int .i64 (S : Nat), .slice oS 12 cS] 25 W.val := fun W => hTT.same (hCC _ _ h1 W.below) ⟨n6T, n8T⟩; have g0 : ∀ W : Aft w1, W.val.cell? ⟨gT, 0, none⟩ = some (.slice (some ⟨gU, 0, none⟩) i cU) := fun W => (zT9 W).cell 0 rfl; have g1 : ∀ W : Aft w1, W.val.cell? ⟨gT, 1, none⟩ = some (.int .i64 (k : Nat)) := fun W => (zT9 W).cell 1 rfl; have g2 : ∀ W : Aft w1, W.val.cell? ⟨gT, 2, none⟩ = some (.int .i64 (S : Nat)) := fun W => (zT9 W).cell 2 rfl; have g3 : ∀ W : Aft w1, W.val.cell? ⟨gT, 3, none⟩ = some (.slice oS 12 cS) := fun W => (zT9 W).cell 3 rfl; clear zT9; go_big_quiet_op; first | exact hK | fail))
              (refine wpAnyG_take (i := 1) hCC hC0 rfl (by kernel_rfl) (by kernel_rfl) (by kernel_rfl) (fun _ _ _ _ h => h) (by rfl) ?_; apply Exists.intro; refine ⟨fun w1 h1 K hK => ?_, ?_⟩; · ( go_big_quiet_op; first | exact hK | fail))
              (refine wpAnyG_take (i := 2) hCC hC0 rfl (by kernel_rfl) (by kernel_rfl) (by kernel_rfl) (fun _ _ _ _ h => h) (by rfl) ?_; apply Exists.intro; refine ⟨fun w1 h1 K hK => ?_, ?_⟩; · (have zL9 : ∀ W : Aft w1, Box gL (cells10 l) 42 W.val := fun W => hLL.same (hCC _ _ h1 W.below) ⟨n6L, n8L⟩; have g0 : ∀ W : Aft w1, W.val.cell? ⟨gL, 0, none⟩ = some (.int .i64 (l 0)) := fun W => (zL9 W).cell 0 rfl; have g1 : ∀ W : Aft w1, W.val.cell? ⟨gL, 1, none⟩ = some (.int .i64 (l 1)) := fun W => (zL9 W).cell 1 rfl; have g2 : ∀ W : Aft w1, W.val.cell? ⟨gL, 2, none⟩ = some (.int .i64 (l 2)) := fun W => (zL9 W).cell 2 rfl; have g3 : ∀ W : Aft w1, W.val.cell? ⟨gL, 3, none⟩ = some (.int .i64 (l 3)) := fun W => (zL9 W).cell 3 rfl; have g4 : ∀ W : Aft w1, W.val.cell? ⟨gL, 4, none⟩ = some (.int .i64 (l 4)) := fun W => (zL9 W).cell 4 rfl; have g5 : ∀ W : Aft w1, W.val.cell? ⟨gL, 5, none⟩ = some (.int .i64 (l 5)) := fun W => (zL9 W).cell 5 rfl; have g6 : ∀ W : Aft w1, W.val.cell? ⟨gL, 6, none⟩ = some (.int .i64 (l 6)) := fun W => (zL9 W).cell 6 rfl; have g7 : ∀ W : Aft w1, W.val.cell? ⟨gL, 7, none⟩ = some (.int .i64 (l 7)) := fun W => (zL9 W).cell 7 rfl; have g8 : ∀ W : Aft w1, W.val.cell? ⟨gL, 8, none⟩ = some (.int .i64 (l 8)) := fun W => (zL9 W).cell 8 rfl; have g9 : ∀ W : Aft w1, W.val.cell? ⟨gL, 9, none⟩ = some (.int .i64 (l 9)) := fun W => (zL9 W).cell 9 rfl; clear zL9; go_big_quiet_op; first | exact hK | fail))
              (refine wpAnyG_one (i := 3) (by kernel_rfl) rfl (by rfl) (fun wa hwa K hK => ?_))
              have T1 := HT5.on hwa
              have O1 := owns_below HO5 hwa
              have z6a := z6.below hwa
              have z8a := z8.below hwa
              refine wp_store_box (z6a) rfl rfl rfl rfl (by kernel_rfl) (by simp [Value.oneCell']) (fun wb s6 ho => ?_); dsimp only [Act.put]
              have low2 := T1.tr.low.trans (ho.below l6)
              have O2 := owns_but O1 ho.but (own_ne O1 z6a (by decide))
              have U2 := ho.box T1.zU n6U
              have z8b := ho.box z8a n68
              have hCb : Same (fun b => b ≠ y6 ∧ b ≠ y8) wr.drew wb := (hCC _ _ hC0 hwa).trans ⟨ho.os, ho.tape, ho.output, Nat.le_of_eq ho.size.symm, fun b _ hp => ho.block b hp.1⟩
              refine hK _ _ hCb ?_
              clear hK K ho T1 O1 z6a z8a hwa hC0
              (refine wpAnyG_one (i := 4) (by kernel_rfl) rfl (by rfl) (fun wc hwc K hK => ?_))
              go_simp
              refine hK _ _ (hCC _ _ hCb hwc) ?_
              clear hK K
              (refine wpAnyG_one (i := 5) (by kernel_rfl) rfl (by rfl) (fun wd hwd K hK => ?_))
              have hbd := hwc.trans (hwd.mono hwc.size)
              have z8d := z8b.below hbd
              have O3 := owns_below O2 hbd
              have hCd := hCC _ _ (hCC _ _ hCb hwc) hwd
              refine wp_store_box z8d rfl rfl (show _ = Value.agg (cells10 l) from rfl) rfl (by kernel_rfl) (by simp [cells10, Value.oneCell']) (fun we s8 ho => ?_)
              dsimp only [Act.put]
              have low3 := (low2.trans (hbd.mono low2.size)).trans (ho.below l8)
              have O4 := owns_but O3 ho.but (own_ne O3 z8d (by decide))
              have U4 := ho.box (U2.below hbd) n8U
              have s6e := ho.box (s6.below hbd) (Ne.symm n68)
              have hCe : Same (fun b => b ≠ y6 ∧ b ≠ y8) wr.drew we := hCd.trans ⟨ho.os, ho.tape, ho.output, Nat.le_of_eq ho.size.symm, fun b _ hp => ho.block b hp.2⟩
              refine hK _ _ hCe ?_
              clear hK K
              refine wpAnyG_done (by kernel_rfl) (fun wz hwz => ?_) _
              have HLOW := Lib.hid (low3.trans (hwz.mono low3.size))
              have HOZ := Lib.hid (owns_below O4 hwz)
              have HUZ := Lib.hid (U4.below hwz)
              have H6Z := Lib.hid (s6e.below hwz)
              have H8Z := Lib.hid (s8.below hwz)
              clear low3 low2 O2 O3 O4 U2 U4 s6 s6e s8 z8b z8d z6 z8 hbd hwc hwd hwz ho hCb hCd hCe HT5 HB5 HO5 hTT hLL hCC hd3
              have r0 := H6Z.out.cell 0 rfl
              have r1 := H6Z.out.cell 1 rfl
              have r2 := H6Z.out.cell 2 rfl
              have r3 := H6Z.out.cell 3 rfl
              have t0 := H8Z.out.cell 0 (v := .int .i64 (l 0)) rfl
              have t1 := H8Z.out.cell 1 (v := .int .i64 (l 1)) rfl
              have t2 := H8Z.out.cell 2 (v := .int .i64 (l 2)) rfl
              have t3 := H8Z.out.cell 3 (v := .int .i64 (l 3)) rfl
              have t4 := H8Z.out.cell 4 (v := .int .i64 (l 4)) rfl
              have t5 := H8Z.out.cell 5 (v := .int .i64 (l 5)) rfl
              have t6 := H8Z.out.cell 6 (v := .int .i64 (l 6)) rfl
              have t7 := H8Z.out.cell 7 (v := .int .i64 (l 7)) rfl
              have t8 := H8Z.out.cell 8 (v := .int .i64 (l 8)) rfl
              have t9 := H8Z.out.cell 9 (v := .int .i64 (l 9)) rfl
              go_wp2_with fail
              refine bodyPost_ret (v := .tuple #[.agg #[.slice (some ⟨gU, 0, none⟩) i cU, .int .i64 (k : Nat), .int .i64 (S : Nat), .slice oS 12 cS], .int .i64 (x : Nat), .agg (cells10 l)]) (by simp [results, Tryd.results20, go_sem, r0, r1, r2, r3, t0, t1, t2, t3, t4, t5, t6, t7, t8, t9, cells10]) rfl ?_
              obtain ⟨hv9, ht9⟩ := truth_valid (n := i) (k := k) (S := S) (m := 12) (x := x) hn1 hn2 hL2 hS1 hS2 (by omega) hx HLL.out HL1.out HL0.out HU.out HS4.out
              obtain ⟨oV, cV, e9, hst9⟩ := owns_stps HOZ.out
              cases e9
              exact ⟨⟨⟨i, u, (k : Nat), (S : Nat), 12, s⟩, x, l, some ⟨gU, 0, none⟩, cU, oS, cS, rfl, hv9, ht9, fun c hc => ⟨gU, 0, rfl, HUZ.out.lt, by rw [Nat.zero_add]; exact HUZ.out.cell _ (HC.out c hc).1, by rw [Nat.zero_add]; exact HUZ.out.cell _ (HC.out c hc).2⟩, hst9⟩, HLOW.out⟩
end Go.Proofs.YtpognhnmkjpipaaDoor
