/- Travel: the document's narrow: numbers that are made less, rule by rule and round by round. -/
import Derived.Test.YtldodmfmibeoiaaDoorR1
namespace Go.Proofs.YtldodmfmibeoiaaDoor
open Go.RowKit
/-- numbers, as the first cells of a block -/
def Nums (cs : Array Value) (n : Nat) (f : Nat → Int) : Prop := ∀ i, i < n → cs[i]? = some (.int .i64 (f i))
theorem owns_nums {w : World} {base e n : Nat} {v : Value} {f : Nat → Int} (h : w.ownsRow base e 1 v n (intNews n f)) (hn : 0 < n) : ∃ g cap cs, v = .slice (some ⟨g, 0, none⟩) n cap ∧ base ≤ g ∧ Box g cs e w ∧ Nums cs n f := by
  obtain ⟨hl, h2⟩ := h
  rcases h2 with ⟨-, rfl⟩ | ⟨g, cap, cur, rfl, hb, hg, hn2, hc, hcs, hx⟩
  · omega
  · refine ⟨g, cap, cur, rfl, hb, ⟨hg⟩, fun i hi => ?_⟩
    have h9 : (intNews n f)[i]? = some (.int .i64 (f i)) := news_get hi
    rw [← hx, List.getElem?_take] at h9
    split at h9
    · simpa using h9
    · cases h9
theorem Nums.size {cs : Array Value} {n : Nat} {f : Nat → Int} (h : Nums cs n f) {i : Nat} (hi : i < n) : i < cs.size := by
  have h1 := h i hi
  rcases Nat.lt_or_ge i cs.size with h2 | h2
  · exact h2
  · rw [Array.getElem?_eq_none h2] at h1; cases h1
theorem Nums.put {cs : Array Value} {n : Nat} {x : Nat → Int} {u : Rul} (h : Nums cs n x) (ha : u.a < n) (hc : u.Cut x) : Nums (cs.setIfInBounds u.a (.int .i64 (x u.b + u.m))) n (relax u x) := fun i hi => by
  rw [Array.getElem?_setIfInBounds]
  unfold relax
  by_cases h9 : u.a = i
  · subst h9
    rw [if_pos rfl, if_pos (h.size ha), if_pos ⟨rfl, hc⟩]
  · rw [if_neg h9, if_neg (fun h8 => h9 h8.1.symm)]
    exact h i hi
theorem Nums.at {w : World} {g n : Nat} {cs : Array Value} {f : Nat → Int} (hb : Box g cs 3 w) (h : Nums cs n f) : IntsAt w (some ⟨g, 0, none⟩) n f := fun i hi => ⟨g, 0, rfl, hb.lt, by rw [Nat.zero_add]; exact hb.cell i (h i hi)⟩
/-- what narrow answers -/
def NarPost (ru : Nat → Rul) (n N : Nat) (M : Nat → Int) (w : World) : Ending → World → Prop := fun e w' => Below w.heap.size w w' ∧
  ((∃ r, r ≤ N ∧ stillR ru (itR ru n M r) n = true ∧ ∃ oo co, e = .returned (.tuple #[.slice oo N co, .bool true]) ∧ IntsAt w' oo N (itR ru n M r)) ∨ ((∀ r, r ≤ N → stillR ru (itR ru n M r) n = false) ∧ e = .returned (.tuple #[.slice none 0 0, .bool false])))
set_option maxRecDepth 100000 in
set_option maxHeartbeats 8000000 in
theorem narrow_any (ol : Option Addr) (n cl : Nat) (ru : Nat → Rul) (om : Option Addr) (N cm : Nat) (M : Nat → Int) (w : World) (hn : n ≤ 100) (hN1 : 1 ≤ N) (hN : N ≤ 13) (hR : RulsAt w ol n ru) (hM : IntsAt w om N M) (hF : FineR N (n, ru)) (hB : BndR 0 M) :
    Calls Tryd.prog 53 #[.slice ol n cl, .slice om N cm] w (NarPost ru n N M w) := by
  have HR := Lib.hid hR
  have HM := Lib.hid hM
  have HF := Lib.hid (show ∀ j, j < n → ((ru j).a < N ∧ (ru j).b < N) ∧ -100000 ≤ (ru j).m ∧ (ru j).m ≤ 100000 from hF)
  have HBN := Lib.hid hB
  clear hR hM hF hB
  obtain ⟨iR, hiR, hzR0, hzR1, hzR2⟩ := info_parts (P := Tryd.prog) (e := 3) (z := .int .i64 0) (size := 1) (bytes := 8) (by kernel_rfl)
  have hnil : om = none → N = 0 ∧ cm = 0 := fun e9 => by obtain ⟨b9, o9, q, -⟩ := HM.out 0 (by omega); rw [e9] at q; cases q
  have HNIL := Lib.hid hnil
  have HNW := Lib.hid (show ∀ (w2 : World) (ad : Addr), Below w.heap.size w w2 → om = some ad → ∀ j u, (intNews N M)[j]? = some u → w2.cell? (ad.add j) = some u from fun w2 ad hb2 had j u hu => by
    obtain ⟨hj, rfl⟩ := news_at hu
    obtain ⟨b9, o9, q, hl9, c9⟩ := HM.out j hj
    rw [had] at q
    cases q
    rw [add_flat]
    exact (hb2.cell (p := ⟨b9, o9 + j, none⟩) hl9).trans c9)
  clear hnil
  go_enter Tryd.func53, Tryd.ntmps53
  go_wp2_with (at_builtin; refine wpList_append_gen rfl (.tmp 10) (.tmp 11) _ rfl w.heap.size 3 iR _ 1 8 Tryd.underlying37 hiR hzR0 hzR1 hzR2 rfl (by omega) (.slice (some ⟨w.heap.size, 0, none⟩) 0 0) 0 [] rfl om N cm (intNews N M) rfl (owns_empty (Nat.le_refl _) (heap_new rfl)) HNIL.out (by simp [intNews]) (fun ad9 e9 => HNW.out _ ad9 (below_alloc1 w (.cells #[] 3)) e9) news_one (by simp only [maxLen]; omega) (by omega) (by simp) ?_; intro vS wS hownS hgrowS)
  rw [List.nil_append, Nat.zero_add] at hownS
  have HLS := Lib.hid (below_grown (below_alloc1 w (.cells #[] 3)) (owns_empty (size := 1) (Nat.le_refl _) (heap_new rfl)) hgrowS)
  obtain ⟨g, cap, cs0, rfl, hgb, hbx, hnm⟩ := owns_nums hownS (by omega)
  have HBX := Lib.hid hbx
  have HNM := Lib.hid (show Nums cs0 N (itR ru n M 0) from hnm)
  clear hownS hgrowS hbx hnm HNW HNIL iR hiR hzR0 hzR1 hzR2
  obtain ⟨wo, rfl⟩ : ∃ wo : World, wo = wS := ⟨_, rfl⟩
  go_loopw [7] (fun v7 wr => ∃ (r : Nat) (cs : Array Value), r ≤ N + 1 ∧ v7 = .int .i64 r ∧ Hid (Below w.heap.size w wr) ∧ Hid (Box g cs 3 wr) ∧ Hid (Nums cs N (itR ru n M r)) ∧ Hid (∀ r', r' < r → stillR ru (itR ru n M r') n = false)) (fun i _ => N + 1 - (intOf i).toNat)
  case atStart => exact ⟨0, cs0, by omega, rfl, HLS, HBX, HNM, Lib.hid fun _ h => by omega⟩
  case round =>
    clear HLS HBX HNM
    obtain ⟨r, cs1, hr, rfl, HLS, HBX, HNM, HNO⟩ := hrel
    by_cases hrN : r ≤ N
    · obtain ⟨X, hX⟩ : ∃ X, X = itR ru n M r := ⟨_, rfl⟩
      have HX := Lib.hid hX
      have HBD := Lib.hid (show ∀ k, k ≤ n → BndR 1000000000 (runR ru X k) from fun k hk => by
        have h1 := BndR.it HBN.out (fun j hj => (HF.out j hj).2) r
        rw [← hX] at h1
        have h2 := h1.run (fun j hj => (HF.out j hj).2) k hk
        have h3 : r * n ≤ 13 * 100 := Nat.mul_le_mul (by omega) hn
        intro i
        have := h2 i
        omega)
      rw [← hX] at HNM
      have HN0 := Lib.hid (show Nums cs1 N (runR ru X 0) from HNM.out)
      clear hX HNM
      go_wp2_with fail
      obtain ⟨wo, rfl⟩ : ∃ wo : World, wo = wr := ⟨_, rfl⟩
      go_loopw [8, 9] (fun v8 v9 wr => ∃ (k : Nat) (cs : Array Value), k ≤ n ∧ v8 = .bool (stillR ru X k) ∧ v9 = .int .i64 k ∧ Hid (Below w.heap.size w wr) ∧ Hid (Box g cs 3 wr) ∧ Hid (Nums cs N (runR ru X k))) (fun _ i _ => n - (intOf i).toNat)
      case atStart => exact ⟨0, cs1, by omega, rfl, rfl, HLS, HBX, HN0⟩
      case round =>
        clear HLS HBX HN0
        obtain ⟨k, cs, hk, rfl, rfl, HLS, HBX, HNM⟩ := hrel
        by_cases hlt : k < n
        · obtain ⟨rb, ro, rfl, hrl, r0, r1, r2⟩ := (HR.out.mono HLS.out) k hlt
          obtain ⟨⟨ha, hb⟩, hm0, hm1⟩ := HF.out k hlt
          have HBK := Lib.hid (HBD.out k hk)
          have HS := Lib.hid (show stillR ru X (k + 1) = (stillR ru X k && !decide ((ru k).Cut (runR ru X k))) from rfl)
          have HRN := Lib.hid (show runR ru X (k + 1) = relax (ru k) (runR ru X k) from rfl)
          obtain ⟨x, hx⟩ : ∃ x, x = runR ru X k := ⟨_, rfl⟩
          obtain ⟨u, hu⟩ : ∃ u, u = ru k := ⟨_, rfl⟩
          rw [← hx] at HNM HBK HS HRN
          rw [← hu] at HS HRN ha hb hm0 hm1 r0 r1 r2
          obtain ⟨st, hst⟩ : ∃ st, st = stillR ru X k := ⟨_, rfl⟩
          rw [← hst] at HS ⊢
          clear hx hu hst
          obtain ⟨a, b, m⟩ := u
          simp only at ha hb hm0 hm1 r0 r1 r2
          have e0 := HNM.out a ha
          have e1 := HNM.out b hb
          obtain ⟨xa, hxa⟩ : ∃ y, y = x a := ⟨_, rfl⟩
          obtain ⟨xb, hxb⟩ : ∃ y, y = x b := ⟨_, rfl⟩
          have B1 : -1100000000 ≤ xa ∧ xa ≤ 1100000000 := by have := HBK.out a; omega
          have B2 : -1100000000 ≤ xb ∧ xb ≤ 1100000000 := by have := HBK.out b; omega
          obtain ⟨B1, B1'⟩ := B1
          obtain ⟨B2, B2'⟩ := B2
          rw [← hxa] at e0
          rw [← hxb] at e1
          have HC := Lib.hid (show Rul.Cut ⟨a, b, m⟩ x ↔ xb < 1073741824 ∧ xb + m < xa by rw [hxa, hxb]; exact Iff.rfl)
          have HPT := Lib.hid (fun (h : Rul.Cut ⟨a, b, m⟩ x) => show Nums (cs.setIfInBounds a (.int .i64 (xb + m))) N (relax ⟨a, b, m⟩ x) by rw [hxb]; exact HNM.out.put ha h)
          have HCL := Lib.hid (show (g < wr.heap.size ∧ rb < wr.heap.size) ∧ (wr.cell? ⟨g, a, none⟩ = some (.int .i64 xa) ∧ wr.cell? ⟨g, b, none⟩ = some (.int .i64 xb)) ∧ wr.cell? ⟨rb, ro + k * 3, none⟩ = some (.int .i64 (a : Nat)) ∧ wr.cell? ⟨rb, ro + k * 3 + 1, none⟩ = some (.int .i64 (b : Nat)) ∧ wr.cell? ⟨rb, ro + k * 3 + 1 + 1, none⟩ = some (.int .i64 m) from ⟨⟨HBX.out.lt, hrl⟩, ⟨HBX.out.cell a e0, HBX.out.cell b e1⟩, r0, r1, r2⟩)
          have hsz : a < cs.size := HNM.out.size ha
          have ia : (a : Int) < (N : Int) := by omega
          have ib : (b : Int) < (N : Int) := by omega
          have ja : (0 : Int) ≤ (a : Int) := by omega
          have jb : (0 : Int) ≤ (b : Int) := by omega
          have ik : (k : Int) < (n : Int) := by omega
          have jk : (0 : Int) ≤ (k : Int) := by omega
          clear e0 e1 hxa hxb r0 r1 r2 hrl
          by_cases h1 : xb < 1073741824
          · have q1 : decide (xb < 1073741824) = true := by simpa using h1
            by_cases h2 : xb + m < xa
            · have q2 : decide (xb + m < xa) = true := by simpa using h2
              have HS1 := Lib.hid (show stillR ru X (k + 1) = false by rw [HS.out, decide_eq_true (HC.out.2 ⟨h1, h2⟩)]; simp)
              have HN1 := Lib.hid (show Nums (cs.setIfInBounds a (.int .i64 (xb + m))) N (runR ru X (k + 1)) by rw [HRN.out]; exact HPT.out (HC.out.2 ⟨h1, h2⟩))
              go_wp2_with fail
              have q3 : ∀ W : Aft wr, W.val.cell? ⟨g, a, none⟩ = some (.int .i64 xa) := fun W => (W.below.cell (p := ⟨g, a, none⟩) HCL.out.1.1).trans HCL.out.2.1.1
              have q4 : ∀ W : Aft wr, W.val.cell? ⟨g, b, none⟩ = some (.int .i64 xb) := fun W => (W.below.cell (p := ⟨g, b, none⟩) HCL.out.1.1).trans HCL.out.2.1.2
              have q5 : ∀ W : Aft wr, W.val.cell? ⟨rb, ro + k * 3, none⟩ = some (.int .i64 (a : Nat)) := fun W => (W.below.cell (p := ⟨rb, ro + k * 3, none⟩) HCL.out.1.2).trans HCL.out.2.2.1
              have q6 : ∀ W : Aft wr, W.val.cell? ⟨rb, ro + k * 3 + 1, none⟩ = some (.int .i64 (b : Nat)) := fun W => (W.below.cell (p := ⟨rb, ro + k * 3 + 1, none⟩) HCL.out.1.2).trans HCL.out.2.2.2.1
              have q7 : ∀ W : Aft wr, W.val.cell? ⟨rb, ro + k * 3 + 1 + 1, none⟩ = some (.int .i64 m) := fun W => (W.below.cell (p := ⟨rb, ro + k * 3 + 1 + 1, none⟩) HCL.out.1.2).trans HCL.out.2.2.2.2
              have q8 : ∀ W : Aft wr, g < W.val.heap.size := fun W => Nat.lt_of_lt_of_le HCL.out.1.1 W.below.size
              have q9 : ∀ W : Aft wr, rb < W.val.heap.size := fun W => Nat.lt_of_lt_of_le HCL.out.1.2 W.below.size
              refine wp_region_aft (by kernel_rfl) (by kernel_rfl) ?_
              repeat (go_big_quiet_step (fail))
              refine wpQuiet_nil ?_
              intro WA
              obtain ⟨wy, hwy⟩ : ∃ X, X = WA.val := ⟨_, rfl⟩
              have hby := WA.below
              rw [← hwy] at hby ⊢
              clear hwy WA
              clear q3 q4 q5 q6 q7 q8 q9
              go_wp2_with fail
              replace HBX := Lib.hid (HBX.out.below hby)
              replace HLS := Lib.hid (HLS.out.trans (hby.mono HLS.out.size))
              replace HCL := Lib.hid (show (g < wy.heap.size ∧ rb < wy.heap.size) ∧ (wy.cell? ⟨g, a, none⟩ = some (.int .i64 xa) ∧ wy.cell? ⟨g, b, none⟩ = some (.int .i64 xb)) ∧ wy.cell? ⟨rb, ro + k * 3, none⟩ = some (.int .i64 (a : Nat)) ∧ wy.cell? ⟨rb, ro + k * 3 + 1, none⟩ = some (.int .i64 (b : Nat)) ∧ wy.cell? ⟨rb, ro + k * 3 + 1 + 1, none⟩ = some (.int .i64 m) from ⟨⟨Nat.lt_of_lt_of_le HCL.out.1.1 hby.size, Nat.lt_of_lt_of_le HCL.out.1.2 hby.size⟩, ⟨(hby.cell (p := ⟨g, a, none⟩) HCL.out.1.1).trans HCL.out.2.1.1, (hby.cell (p := ⟨g, b, none⟩) HCL.out.1.1).trans HCL.out.2.1.2⟩, (hby.cell (p := ⟨rb, ro + k * 3, none⟩) HCL.out.1.2).trans HCL.out.2.2.1, (hby.cell (p := ⟨rb, ro + k * 3 + 1, none⟩) HCL.out.1.2).trans HCL.out.2.2.2.1, (hby.cell (p := ⟨rb, ro + k * 3 + 1 + 1, none⟩) HCL.out.1.2).trans HCL.out.2.2.2.2⟩)
              clear hby
              have hP0 : ∀ A B : World, (Below wy.heap.size wy A) → Below A.heap.size A B → Below wy.heap.size wy B := fun A B h1 h2 => h1.trans (h2.mono h1.size)
              have hP1 : ∀ A B : World, g < A.heap.size → Below A.heap.size A B → g < B.heap.size := fun _ _ h1 h2 => Nat.lt_of_lt_of_le h1 h2.size
              have hP01 : ∀ A : World, Below wy.heap.size wy A → g < A.heap.size := fun _ h1 => Nat.lt_of_lt_of_le HCL.out.1.1 h1.size
              have hC0 : Below wy.heap.size wy wy.drew := (Below.refl _ _).drew
              refine wp_region_phase 21 (fun A => Below wy.heap.size wy A) (fun A => g < A.heap.size) (by kernel_rfl) ?_
              (refine wpAnyP_take0 (i := 0) hP0 hP1 hC0 (by decide) (by rfl) rfl (by kernel_rfl) rfl (by kernel_rfl) (by kernel_rfl) (by kernel_rfl) (fun _ _ _ _ h => h) (by rfl) ?_; apply Exists.intro; refine ⟨fun w1 h1 K hK => ?_, ?_⟩; · ( go_big_quiet_op; first | exact hK | fail))
              (refine wpAnyP_take0 (i := 1) hP0 hP1 hC0 (by decide) (by rfl) rfl (by kernel_rfl) rfl (by kernel_rfl) (by kernel_rfl) (by kernel_rfl) (fun _ _ _ _ h => h) (by rfl) ?_; apply Exists.intro; refine ⟨fun w1 h1 K hK => ?_, ?_⟩; · ( go_big_quiet_op; first | exact hK | fail))
              (refine wpAnyP_take0 (i := 2) hP0 hP1 hC0 (by decide) (by rfl) rfl (by kernel_rfl) rfl (by kernel_rfl) (by kernel_rfl) (by kernel_rfl) (fun _ _ _ _ h => h) (by rfl) ?_; apply Exists.intro; refine ⟨fun w1 h1 K hK => ?_, ?_⟩; · ( go_big_quiet_op; first | exact hK | fail))
              (refine wpAnyP_take0 (i := 3) hP0 hP1 hC0 (by decide) (by rfl) rfl (by kernel_rfl) rfl (by kernel_rfl) (by kernel_rfl) (by kernel_rfl) (fun _ _ _ _ h => h) (by rfl) ?_; apply Exists.intro; refine ⟨fun w1 h1 K hK => ?_, ?_⟩; · (have z3 : ∀ W : Aft w1, rb < W.val.heap.size := fun W => Nat.lt_of_lt_of_le HCL.out.1.2 (hP0 _ _ h1 W.below).size; go_big_quiet_op; first | exact hK | fail))
              (refine wpAnyP_take0 (i := 4) hP0 hP1 hC0 (by decide) (by rfl) rfl (by kernel_rfl) rfl (by kernel_rfl) (by kernel_rfl) (by kernel_rfl) (fun _ _ _ _ h => h) (by rfl) ?_; apply Exists.intro; refine ⟨fun w1 h1 K hK => ?_, ?_⟩; · (have z3 : ∀ W : Aft w1, rb < W.val.heap.size := fun W => Nat.lt_of_lt_of_le HCL.out.1.2 (hP0 _ _ h1 W.below).size; go_big_quiet_op; first | exact hK | fail))
              (refine wpAnyP_take0 (i := 5) hP0 hP1 hC0 (by decide) (by rfl) rfl (by kernel_rfl) rfl (by kernel_rfl) (by kernel_rfl) (by kernel_rfl) (fun _ _ _ _ h => h) (by rfl) ?_; apply Exists.intro; refine ⟨fun w1 h1 K hK => ?_, ?_⟩; · (have z3 : ∀ W : Aft w1, W.val.cell? ⟨rb, ro + k * 3, none⟩ = some (.int .i64 (a : Nat)) := fun W => ((hP0 _ _ h1 W.below).cell (p := ⟨rb, ro + k * 3, none⟩) HCL.out.1.2).trans HCL.out.2.2.1; go_big_quiet_op; first | exact hK | fail))
              (refine wpAnyP_take0 (i := 6) hP0 hP1 hC0 (by decide) (by rfl) rfl (by kernel_rfl) rfl (by kernel_rfl) (by kernel_rfl) (by kernel_rfl) (fun _ _ _ _ h => h) (by rfl) ?_; apply Exists.intro; refine ⟨fun w1 h1 K hK => ?_, ?_⟩; · ( go_big_quiet_op; first | exact hK | fail))
              (refine wpAnyP_take0 (i := 7) hP0 hP1 hC0 (by decide) (by rfl) rfl (by kernel_rfl) rfl (by kernel_rfl) (by kernel_rfl) (by kernel_rfl) (fun _ _ _ _ h => h) (by rfl) ?_; apply Exists.intro; refine ⟨fun w1 h1 K hK => ?_, ?_⟩; · ( go_big_quiet_op; first | exact hK | fail))
              (refine wpAnyP_take0 (i := 8) hP0 hP1 hC0 (by decide) (by rfl) rfl (by kernel_rfl) rfl (by kernel_rfl) (by kernel_rfl) (by kernel_rfl) (fun _ _ _ _ h => h) (by rfl) ?_; apply Exists.intro; refine ⟨fun w1 h1 K hK => ?_, ?_⟩; · ( go_big_quiet_op; first | exact hK | fail))
              (refine wpAnyP_take0 (i := 9) hP0 hP1 hC0 (by decide) (by rfl) rfl (by kernel_rfl) rfl (by kernel_rfl) (by kernel_rfl) (by kernel_rfl) (fun _ _ _ _ h => h) (by rfl) ?_; apply Exists.intro; refine ⟨fun w1 h1 K hK => ?_, ?_⟩; · (have z3 : ∀ W : Aft w1, rb < W.val.heap.size := fun W => Nat.lt_of_lt_of_le HCL.out.1.2 (hP0 _ _ h1 W.below).size; go_big_quiet_op; first | exact hK | fail))
              (refine wpAnyP_take0 (i := 10) hP0 hP1 hC0 (by decide) (by rfl) rfl (by kernel_rfl) rfl (by kernel_rfl) (by kernel_rfl) (by kernel_rfl) (fun _ _ _ _ h => h) (by rfl) ?_; apply Exists.intro; refine ⟨fun w1 h1 K hK => ?_, ?_⟩; · (have z3 : ∀ W : Aft w1, rb < W.val.heap.size := fun W => Nat.lt_of_lt_of_le HCL.out.1.2 (hP0 _ _ h1 W.below).size; go_big_quiet_op; first | exact hK | fail))
              (refine wpAnyP_take0 (i := 11) hP0 hP1 hC0 (by decide) (by rfl) rfl (by kernel_rfl) rfl (by kernel_rfl) (by kernel_rfl) (by kernel_rfl) (fun _ _ _ _ h => h) (by rfl) ?_; apply Exists.intro; refine ⟨fun w1 h1 K hK => ?_, ?_⟩; · (have z3 : ∀ W : Aft w1, W.val.cell? ⟨rb, ro + k * 3 + 1, none⟩ = some (.int .i64 (b : Nat)) := fun W => ((hP0 _ _ h1 W.below).cell (p := ⟨rb, ro + k * 3 + 1, none⟩) HCL.out.1.2).trans HCL.out.2.2.2.1; go_big_quiet_op; first | exact hK | fail))
              (refine wpAnyP_take0 (i := 12) hP0 hP1 hC0 (by decide) (by rfl) rfl (by kernel_rfl) rfl (by kernel_rfl) (by kernel_rfl) (by kernel_rfl) (fun _ _ _ _ h => h) (by rfl) ?_; apply Exists.intro; refine ⟨fun w1 h1 K hK => ?_, ?_⟩; · (have z3 : ∀ W : Aft w1, g < W.val.heap.size := fun W => Nat.lt_of_lt_of_le HCL.out.1.1 (hP0 _ _ h1 W.below).size; go_big_quiet_op; first | exact hK | fail))
              (refine wpAnyP_take0 (i := 13) hP0 hP1 hC0 (by decide) (by rfl) rfl (by kernel_rfl) rfl (by kernel_rfl) (by kernel_rfl) (by kernel_rfl) (fun _ _ _ _ h => h) (by rfl) ?_; apply Exists.intro; refine ⟨fun w1 h1 K hK => ?_, ?_⟩; · (have z3 : ∀ W : Aft w1, W.val.cell? ⟨g, b, none⟩ = some (.int .i64 xb) := fun W => ((hP0 _ _ h1 W.below).cell (p := ⟨g, b, none⟩) HCL.out.1.1).trans HCL.out.2.1.2; go_big_quiet_op; first | exact hK | fail))
              (refine wpAnyP_take0 (i := 14) hP0 hP1 hC0 (by decide) (by rfl) rfl (by kernel_rfl) rfl (by kernel_rfl) (by kernel_rfl) (by kernel_rfl) (fun _ _ _ _ h => h) (by rfl) ?_; apply Exists.intro; refine ⟨fun w1 h1 K hK => ?_, ?_⟩; · ( go_big_quiet_op; first | exact hK | fail))
              (refine wpAnyP_take0 (i := 15) hP0 hP1 hC0 (by decide) (by rfl) rfl (by kernel_rfl) rfl (by kernel_rfl) (by kernel_rfl) (by kernel_rfl) (fun _ _ _ _ h => h) (by rfl) ?_; apply Exists.intro; refine ⟨fun w1 h1 K hK => ?_, ?_⟩; · ( go_big_quiet_op; first | exact hK | fail))
              (refine wpAnyP_take0 (i := 16) hP0 hP1 hC0 (by decide) (by rfl) rfl (by kernel_rfl) rfl (by kernel_rfl) (by kernel_rfl) (by kernel_rfl) (fun _ _ _ _ h => h) (by rfl) ?_; apply Exists.intro; refine ⟨fun w1 h1 K hK => ?_, ?_⟩; · (have z3 : ∀ W : Aft w1, rb < W.val.heap.size := fun W => Nat.lt_of_lt_of_le HCL.out.1.2 (hP0 _ _ h1 W.below).size; go_big_quiet_op; first | exact hK | fail))
              (refine wpAnyP_take0 (i := 17) hP0 hP1 hC0 (by decide) (by rfl) rfl (by kernel_rfl) rfl (by kernel_rfl) (by kernel_rfl) (by kernel_rfl) (fun _ _ _ _ h => h) (by rfl) ?_; apply Exists.intro; refine ⟨fun w1 h1 K hK => ?_, ?_⟩; · (have z3 : ∀ W : Aft w1, rb < W.val.heap.size := fun W => Nat.lt_of_lt_of_le HCL.out.1.2 (hP0 _ _ h1 W.below).size; go_big_quiet_op; first | exact hK | fail))
              (refine wpAnyP_take0 (i := 18) hP0 hP1 hC0 (by decide) (by rfl) rfl (by kernel_rfl) rfl (by kernel_rfl) (by kernel_rfl) (by kernel_rfl) (fun _ _ _ _ h => h) (by rfl) ?_; apply Exists.intro; refine ⟨fun w1 h1 K hK => ?_, ?_⟩; · (have z3 : ∀ W : Aft w1, W.val.cell? ⟨rb, ro + k * 3 + 1 + 1, none⟩ = some (.int .i64 m) := fun W => ((hP0 _ _ h1 W.below).cell (p := ⟨rb, ro + k * 3 + 1 + 1, none⟩) HCL.out.1.2).trans HCL.out.2.2.2.2; go_big_quiet_op; first | exact hK | fail))
              (refine wpAnyP_take0 (i := 19) hP0 hP1 hC0 (by decide) (by rfl) rfl (by kernel_rfl) rfl (by kernel_rfl) (by kernel_rfl) (by kernel_rfl) (fun _ _ _ _ h => h) (by rfl) ?_; apply Exists.intro; refine ⟨fun w1 h1 K hK => ?_, ?_⟩; · ( go_big_quiet_op; first | exact hK | fail))
              (refine wpAnyP_one (i := 20) (by kernel_rfl) rfl (by rfl) (fun wa hwa K hK => ?_))
              have hlt9 := hP01 _ (hP0 _ _ hC0 hwa)
              go_simp
              refine hK _ _ (hP0 _ _ hC0 hwa) ?_
              clear hK K
              (refine wpAnyP_one (i := 21) (by kernel_rfl) rfl (by rfl) (fun wb hwb K hK => ?_))
              have hA := hP0 _ _ (hP0 _ _ hC0 hwa) hwb
              refine wp_store_int (HBX.out.below hA) rfl rfl rfl hsz (by kernel_rfl) (fun wf zf ho => ?_)
              dsimp only [Act.put]
              have hLf : Below w.heap.size w wf := (HLS.out.trans (hA.mono HLS.out.size)).trans (ho.below (by omega))
              refine hK _ _ zf.lt ?_
              clear hK K
              refine wpAnyP_done (by kernel_rfl) (fun wz hwz => ?_) _
              have HLW := Lib.hid (show Below w.heap.size w wz from hLf.trans (hwz.mono hLf.size))
              have HBW := Lib.hid (zf.below hwz)
              clear hA hLf zf ho hwa hwb hwz hP0 hP1 hP01 hC0
              go_wp2_with fail
              go_roundw
              case rel => exact ⟨k + 1, _, by omega, by rw [HS1.out], by go_num, HLW, HBW, HN1⟩
              case measure => simp [intOf]; omega
            · have q2 : decide (xb + m < xa) = false := by simpa using h2
              have hnc : ¬ Rul.Cut ⟨a, b, m⟩ x := fun h9 => h2 (HC.out.1 h9).2
              have HS1 := Lib.hid (show stillR ru X (k + 1) = st by rw [HS.out, decide_eq_false hnc]; simp)
              have HN1 := Lib.hid (show Nums cs N (runR ru X (k + 1)) by rw [HRN.out, relax_no hnc]; exact HNM.out)
              clear hnc
              go_wp2_with fail
              have q3 : ∀ W : Aft wr, W.val.cell? ⟨g, a, none⟩ = some (.int .i64 xa) := fun W => (W.below.cell (p := ⟨g, a, none⟩) HCL.out.1.1).trans HCL.out.2.1.1
              have q4 : ∀ W : Aft wr, W.val.cell? ⟨g, b, none⟩ = some (.int .i64 xb) := fun W => (W.below.cell (p := ⟨g, b, none⟩) HCL.out.1.1).trans HCL.out.2.1.2
              have q5 : ∀ W : Aft wr, W.val.cell? ⟨rb, ro + k * 3, none⟩ = some (.int .i64 (a : Nat)) := fun W => (W.below.cell (p := ⟨rb, ro + k * 3, none⟩) HCL.out.1.2).trans HCL.out.2.2.1
              have q6 : ∀ W : Aft wr, W.val.cell? ⟨rb, ro + k * 3 + 1, none⟩ = some (.int .i64 (b : Nat)) := fun W => (W.below.cell (p := ⟨rb, ro + k * 3 + 1, none⟩) HCL.out.1.2).trans HCL.out.2.2.2.1
              have q7 : ∀ W : Aft wr, W.val.cell? ⟨rb, ro + k * 3 + 1 + 1, none⟩ = some (.int .i64 m) := fun W => (W.below.cell (p := ⟨rb, ro + k * 3 + 1 + 1, none⟩) HCL.out.1.2).trans HCL.out.2.2.2.2
              have q8 : ∀ W : Aft wr, g < W.val.heap.size := fun W => Nat.lt_of_lt_of_le HCL.out.1.1 W.below.size
              have q9 : ∀ W : Aft wr, rb < W.val.heap.size := fun W => Nat.lt_of_lt_of_le HCL.out.1.2 W.below.size
              refine wp_region_aft (by kernel_rfl) (by kernel_rfl) ?_
              repeat (go_big_quiet_step (fail))
              refine wpQuiet_nil ?_
              intro WA
              obtain ⟨wy, hwy⟩ : ∃ X, X = WA.val := ⟨_, rfl⟩
              have hby := WA.below
              rw [← hwy] at hby ⊢
              clear hwy WA
              clear q3 q4 q5 q6 q7 q8 q9
              go_wp2_with fail
              have HLW := Lib.hid (HLS.out.trans (hby.mono HLS.out.size))
              have HBW := Lib.hid (HBX.out.below hby)
              go_roundw
              case rel => exact ⟨k + 1, _, by omega, by rw [HS1.out], by go_num, HLW, HBW, HN1⟩
              case measure => simp [intOf]; omega
          · have q1 : decide (xb < 1073741824) = false := by simpa using h1
            have hnc : ¬ Rul.Cut ⟨a, b, m⟩ x := fun h9 => h1 (HC.out.1 h9).1
            have HS1 := Lib.hid (show stillR ru X (k + 1) = st by rw [HS.out, decide_eq_false hnc]; simp)
            have HN1 := Lib.hid (show Nums cs N (runR ru X (k + 1)) by rw [HRN.out, relax_no hnc]; exact HNM.out)
            clear hnc
            go_wp2_with fail
            have q3 : ∀ W : Aft wr, W.val.cell? ⟨g, a, none⟩ = some (.int .i64 xa) := fun W => (W.below.cell (p := ⟨g, a, none⟩) HCL.out.1.1).trans HCL.out.2.1.1
            have q4 : ∀ W : Aft wr, W.val.cell? ⟨g, b, none⟩ = some (.int .i64 xb) := fun W => (W.below.cell (p := ⟨g, b, none⟩) HCL.out.1.1).trans HCL.out.2.1.2
            have q5 : ∀ W : Aft wr, W.val.cell? ⟨rb, ro + k * 3, none⟩ = some (.int .i64 (a : Nat)) := fun W => (W.below.cell (p := ⟨rb, ro + k * 3, none⟩) HCL.out.1.2).trans HCL.out.2.2.1
            have q6 : ∀ W : Aft wr, W.val.cell? ⟨rb, ro + k * 3 + 1, none⟩ = some (.int .i64 (b : Nat)) := fun W => (W.below.cell (p := ⟨rb, ro + k * 3 + 1, none⟩) HCL.out.1.2).trans HCL.out.2.2.2.1
            have q7 : ∀ W : Aft wr, W.val.cell? ⟨rb, ro + k * 3 + 1 + 1, none⟩ = some (.int .i64 m) := fun W => (W.below.cell (p := ⟨rb, ro + k * 3 + 1 + 1, none⟩) HCL.out.1.2).trans HCL.out.2.2.2.2
            have q8 : ∀ W : Aft wr, g < W.val.heap.size := fun W => Nat.lt_of_lt_of_le HCL.out.1.1 W.below.size
            have q9 : ∀ W : Aft wr, rb < W.val.heap.size := fun W => Nat.lt_of_lt_of_le HCL.out.1.2 W.below.size
            refine wp_region_aft (by kernel_rfl) (by kernel_rfl) ?_
            repeat (go_big_quiet_step (fail))
            refine wpQuiet_nil ?_
            intro WA
            obtain ⟨wy, hwy⟩ : ∃ X, X = WA.val := ⟨_, rfl⟩
            have hby := WA.below
            rw [← hwy] at hby ⊢
            clear hwy WA
            clear q3 q4 q5 q6 q7 q8 q9
            go_wp2_with fail
            have HLW := Lib.hid (HLS.out.trans (hby.mono HLS.out.size))
            have HBW := Lib.hid (HBX.out.below hby)
            go_roundw
            case rel => exact ⟨k + 1, _, by omega, by rw [HS1.out], by go_num, HLW, HBW, HN1⟩
            case measure => simp [intOf]; omega
        · obtain rfl : k = n := by omega
          have HST := Lib.hid (show ∀ st, stillR ru X k = st → stillR ru (itR ru k M r) k = st from fun st h9 => by rw [← HX.out]; exact h9)
          have HSI := (still_iff ru X k).1
          have HIT := Lib.hid (show itR ru k M (r + 1) = runR ru X k by rw [HX.out]; rfl)
          obtain ⟨st, hst⟩ : ∃ st, st = stillR ru X k := ⟨_, rfl⟩
          rw [← hst] at HSI HST ⊢
          cases st
          · have HNO2 := Lib.hid (show ∀ r', r' < r + 1 → stillR ru (itR ru k M r') k = false from fun r' hr' => by
              by_cases h9 : r' = r
              · subst h9; exact HST.out _ rfl
              · exact HNO.out r' (by omega))
            have HN1 := Lib.hid (show Nums cs N (itR ru k M (r + 1)) by rw [HIT.out]; exact HNM.out)
            clear HST HSI hst HIT
            go_wp2_with fail
            go_roundw
            case rel => exact ⟨r + 1, cs, by omega, by go_num, HLS, HBX, HN1, HNO2⟩
            case measure => simp [intOf]; omega
          · have hse := hst.symm
            have hev := (HSI rfl).1
            have HP := Lib.hid (show NarPost ru k N M w (.returned (.tuple #[.slice (some ⟨g, 0, none⟩) N cap, .bool true])) wr from ⟨HLS.out, .inl ⟨r, hrN, HST.out _ rfl, _, _, rfl, by
              rw [← HX.out, ← hev]; exact HNM.out.at HBX.out⟩⟩)
            clear HST HSI hst HIT hse hev
            go_wp2_with fail
            refine bodyPost_ret (v := .tuple #[.slice (some ⟨g, 0, none⟩) N cap, .bool true]) (by simp [results, Tryd.results53, go_sem]) rfl HP.out
    · obtain rfl : r = N + 1 := by omega
      have HP := Lib.hid (show NarPost ru n N M w (.returned (.tuple #[.slice none 0 0, .bool false])) wr from ⟨HLS.out, .inr ⟨fun r' h9 => HNO.out r' (by omega), rfl⟩⟩)
      go_wp2_with fail
      refine bodyPost_ret (v := .tuple #[.slice none 0 0, .bool false]) (by simp [results, Tryd.results53, go_sem]) rfl HP.out
end Go.Proofs.YtldodmfmibeoiaaDoor
