/- Zone's Leaks of one zone and one night: what it returns. -/
import Derived.Test.YtmeeknmjhlfnaaaDoorZ1
namespace Go.Proofs.YtmeeknmjhlfnaaaDoor
open Go.RowKit
def spnNews (n : Nat) (f : Nat → Spn) : List Value := (List.range n).flatMap fun i => [.int .i64 (f i).lo, .int .i64 (f i).hi]
theorem spnNews_succ (n : Nat) (f : Nat → Spn) : spnNews (n + 1) f = spnNews n f ++ [.int .i64 (f n).lo, .int .i64 (f n).hi] := by simp [spnNews, List.range_succ, List.flatMap_append]
theorem spnNews_length (n : Nat) (f : Nat → Spn) : (spnNews n f).length = n * 2 := by
  induction n with
  | zero => rfl
  | succ n ih => rw [spnNews_succ, List.length_append, ih]; simp; omega
theorem spnNews_get {n : Nat} {f : Nat → Spn} {i : Nat} (hi : i < n) : (spnNews n f)[i * 2]? = some (.int .i64 (f i).lo) ∧ (spnNews n f)[i * 2 + 1]? = some (.int .i64 (f i).hi) := by
  induction n with
  | zero => omega
  | succ n ih =>
    rw [spnNews_succ]
    have hl := spnNews_length n f
    by_cases h : i = n
    · subst h
      rw [List.getElem?_append_right (by omega), List.getElem?_append_right (by omega), hl]
      simp [show i * 2 + 1 - i * 2 = 1 by omega]
    · obtain ⟨h0, h1⟩ := ih (by omega)
      rw [List.getElem?_append_left (by omega), List.getElem?_append_left (by omega)]
      exact ⟨h0, h1⟩
theorem owns_spns {w : World} {base e n : Nat} {v : Value} {f : Nat → Spn} (h : w.ownsRow base e 2 v n (spnNews n f)) : ∃ oa cap, v = .slice oa n cap ∧ SpnsAt w oa n f := by
  obtain ⟨oa, cap, rfl, hx⟩ := owns_form h
  refine ⟨oa, cap, rfl, fun i hi => ?_⟩
  obtain ⟨h0, h1⟩ := spnNews_get (f := f) hi
  obtain ⟨k, e0, hk, g0⟩ := hx _ _ h0
  obtain ⟨k', e1, -, g1⟩ := hx _ _ h1
  rw [e0] at e1
  cases e1
  exact ⟨k, 0, e0, hk, by rw [Nat.zero_add]; exact g0, by rw [Nat.zero_add]; exact g1⟩
/-- what leaks of one zone by one night of one hour -/
def nightS (f s : Spn) : Spn := ⟨max 0 (f.lo - s.hi), max 0 (f.hi - s.lo)⟩
set_option maxRecDepth 100000 in
set_option maxHeartbeats 4000000 in
theorem leaksZ_any (a f s : Spn) (gz zc gn nc : Nat) (w : World) (ha : litB a = true) (hf : litB f = true) (hs : litB s = true) (hZ : ZB a gz w) (hN : NB f s gn w) :
    Calls Tryd.prog 9 #[.slice (some ⟨gz, 0, none⟩) 1 zc, .slice (some ⟨gn, 0, none⟩) 1 nc] w fun e w' => (∃ oa cap, e = .returned (.tuple #[.slice oa 1 cap, .int .i64 0]) ∧ SpnsAt w' oa 1 (fun _ => nightS f s)) ∧ Below w.heap.size w w' := by
  have HZ := Lib.hid hZ
  have HN := Lib.hid hN
  have bf : 0 ≤ f.lo ∧ f.lo ≤ f.hi ∧ f.hi ≤ 1073741824 := by simp only [litB, spanB, decide_eq_true_eq] at hf; exact hf
  have bs : 0 ≤ s.lo ∧ s.lo ≤ s.hi ∧ s.hi ≤ 1073741824 := by simp only [litB, spanB, decide_eq_true_eq] at hs; exact hs
  have HA := Lib.hid ha
  have HF := Lib.hid hf
  have HS := Lib.hid hs
  obtain ⟨b0, b1, b2⟩ := bf
  obtain ⟨b3, b4, b5⟩ := bs
  clear hZ hN ha hf hs
  go_enter Tryd.func9, Tryd.ntmps9
  go_wp2_with fail
  refine (isList_any a gz zc _ HA.out HZ.out).mono ?_
  rintro e X1 ⟨rfl, hb1⟩
  have L0 := Lib.hid hb1
  clear hb1
  go_wp2_with fail
  refine (containsNight_any f s gn nc X1 HF.out HS.out (HN.out.below L0.out)).mono ?_
  rintro e X2 ⟨rfl, hb2⟩
  have L2 := Lib.hid (L0.out.trans (hb2.mono L0.out.size))
  clear hb2 L0
  go_wp2_with fail
  go_loopw [4, 25] (fun v4 v25 wr => ∃ k : Nat, k ≤ 1 ∧ v25 = .int .i64 k ∧ Below w.heap.size w wr ∧ wr.ownsRow w.heap.size 34 2 v4 k (spnNews k (fun _ => nightS f s))) (fun _ i _ => 1 - (intOf i).toNat)
  case atStart => exact ⟨0, Nat.zero_le _, rfl, L2.out, owns_none⟩
  case round =>
    obtain ⟨k, hk, rfl, hb0, hown⟩ := hrel
    have HO := Lib.hid hown
    clear hown
    by_cases hlt : k < 1
    · obtain rfl : k = 0 := by omega
      obtain ⟨oV0, cV0, rfl, -⟩ := owns_form HO.out
      have hv0 : oV0 = none ∧ cV0 = 0 ∨ True := .inr trivial
      clear hv0
      obtain ⟨c0, c1, c2, c3, c4, c5, c6⟩ := NB.cells (HN.out.below hb0)
      go_upto_region 11 with fail
      have z0 : NB f s wr.heap.size (wr.alloc (.cells #[.int .i64 f.lo, .int .i64 f.hi, .int .i64 s.lo, .int .i64 s.hi, .int .i64 1, .int .i64 1] 38)) := Box.new _ 38 wr rfl
      have hb1 := hb0.trans ((below_alloc1 wr (.cells #[.int .i64 f.lo, .int .i64 f.hi, .int .i64 s.lo, .int .i64 s.hi, .int .i64 1, .int .i64 1] 38)).mono hb0.size)
      have hO1 := owns_below HO.out (below_alloc1 wr (.cells #[.int .i64 f.lo, .int .i64 f.hi, .int .i64 s.lo, .int .i64 s.hi, .int .i64 1, .int .i64 1] 38))
      obtain ⟨W1, hW⟩ : ∃ X, X = wr.alloc (.cells #[.int .i64 f.lo, .int .i64 f.hi, .int .i64 s.lo, .int .i64 s.hi, .int .i64 1, .int .i64 1] 38) := ⟨_, rfl⟩
      obtain ⟨g1, hG⟩ : ∃ g, g = wr.heap.size := ⟨_, rfl⟩
      rw [← hW] at z0 hb1 hO1 ⊢
      rw [← hG] at z0 ⊢
      clear hW hG c0 c1 c2 c3 c4 c5 c6 hb0 HO
      have Z1 := Lib.hid z0
      have L1 := Lib.hid hb1
      have HO1 := Lib.hid hO1
      clear z0 hb1 hO1
      obtain ⟨c0, c1, c2, c3, c4, c5, c6⟩ := NB.cells Z1.out
      obtain ⟨iU, hiU, hzU0, hzU1, hzU2⟩ := info_parts (P := Tryd.prog) (e := 34) (z := .agg #[.int .i64 0, .int .i64 0]) (size := 2) (bytes := 16) (by kernel_rfl)
      rcases (by omega : (0 < f.lo - s.hi ∧ 0 < f.hi - s.lo) ∨ (f.lo - s.hi ≤ 0 ∧ 0 < f.hi - s.lo) ∨ (f.lo - s.hi ≤ 0 ∧ f.hi - s.lo ≤ 0)) with hq | hq | hq
      · have m1 : 0 < f.lo - s.hi := by omega
        have m2 : 0 < f.hi - s.lo := by omega
        have e1 : max 0 (f.lo - s.hi) = (f.lo - s.hi) := by omega
        have e2 : max 0 (f.hi - s.lo) = (f.hi - s.lo) := by omega
        have HE1 := Lib.hid e1
        have HE2 := Lib.hid e2
        have HOE := Lib.hid (show (W1.alloc (.cells #[.int .i64 (f.lo - s.hi), .int .i64 (f.hi - s.lo)] 34)).ownsRow w.heap.size 34 2 (.slice oV0 0 cV0) 0 [] from owns_below HO1.out (below_alloc1 _ _))
        have HLE := Lib.hid (L1.out.trans ((below_alloc1 W1 (.cells #[.int .i64 (f.lo - s.hi), .int .i64 (f.hi - s.lo)] 34)).mono L1.out.size))
        have HNW := Lib.hid (show ∀ ad, some (⟨W1.heap.size, 0, none⟩ : Addr) = some ad → ∀ j9 u9, ([.int .i64 (f.lo - s.hi), .int .i64 (f.hi - s.lo)] : List Value)[j9]? = some u9 → (W1.alloc (.cells #[.int .i64 (f.lo - s.hi), .int .i64 (f.hi - s.lo)] 34)).cell? (ad.add j9) = some u9 from fun ad9 e9 j9 u9 hu9 => by cases e9; rw [add_flat, Nat.zero_add]; exact (Box.new #[.int .i64 (f.lo - s.hi), .int .i64 (f.hi - s.lo)] 34 W1 rfl).cell j9 (by rw [List.getElem?_toArray]; exact hu9))
        clear e1 e2
        go_wp2_with (at_builtin; (refine wpList_append_gen rfl (.tmp 29) (.tmp 55) 22 rfl w.heap.size 34 iU _ 2 16 Tryd.underlying22 hiU hzU0 hzU1 hzU2 rfl (by omega) (.slice oV0 0 cV0) 0 [] rfl (some ⟨W1.heap.size, 0, none⟩) 1 1 [.int .i64 (f.lo - s.hi), .int .i64 (f.hi - s.lo)] rfl HOE.out (fun e9 => by cases e9) rfl HNW.out (by simp [Value.oneCell']) (by simp only [maxLen]; omega) (by omega) HLE.out.size ?_; intro vS wS hownS hgrowS; have HLS := Lib.hid (below_grown HLE.out HOE.out hgrowS); clear hgrowS; rw [List.nil_append, Nat.zero_add] at hownS; obtain ⟨oV, cV, rfl, -⟩ := owns_form hownS; have HOS := Lib.hid hownS; clear hownS))
        go_roundw
        case rel => exact ⟨1, by omega, by go_num, HLS.out, (by rw [show spnNews 1 (fun _ => nightS f s) = [.int .i64 (f.lo - s.hi), .int .i64 (f.hi - s.lo)] from (by simp [spnNews, nightS, HE1.out, HE2.out])]; exact HOS.out)⟩
        case measure => simp [intOf]
      · have m1 : f.lo - s.hi ≤ 0 := by omega
        have m2 : 0 < f.hi - s.lo := by omega
        have e1 : max 0 (f.lo - s.hi) = 0 := by omega
        have e2 : max 0 (f.hi - s.lo) = (f.hi - s.lo) := by omega
        have HE1 := Lib.hid e1
        have HE2 := Lib.hid e2
        have HOE := Lib.hid (show (W1.alloc (.cells #[.int .i64 0, .int .i64 (f.hi - s.lo)] 34)).ownsRow w.heap.size 34 2 (.slice oV0 0 cV0) 0 [] from owns_below HO1.out (below_alloc1 _ _))
        have HLE := Lib.hid (L1.out.trans ((below_alloc1 W1 (.cells #[.int .i64 0, .int .i64 (f.hi - s.lo)] 34)).mono L1.out.size))
        have HNW := Lib.hid (show ∀ ad, some (⟨W1.heap.size, 0, none⟩ : Addr) = some ad → ∀ j9 u9, ([.int .i64 0, .int .i64 (f.hi - s.lo)] : List Value)[j9]? = some u9 → (W1.alloc (.cells #[.int .i64 0, .int .i64 (f.hi - s.lo)] 34)).cell? (ad.add j9) = some u9 from fun ad9 e9 j9 u9 hu9 => by cases e9; rw [add_flat, Nat.zero_add]; exact (Box.new #[.int .i64 0, .int .i64 (f.hi - s.lo)] 34 W1 rfl).cell j9 (by rw [List.getElem?_toArray]; exact hu9))
        clear e1 e2
        go_wp2_with (at_builtin; (refine wpList_append_gen rfl (.tmp 29) (.tmp 55) 22 rfl w.heap.size 34 iU _ 2 16 Tryd.underlying22 hiU hzU0 hzU1 hzU2 rfl (by omega) (.slice oV0 0 cV0) 0 [] rfl (some ⟨W1.heap.size, 0, none⟩) 1 1 [.int .i64 0, .int .i64 (f.hi - s.lo)] rfl HOE.out (fun e9 => by cases e9) rfl HNW.out (by simp [Value.oneCell']) (by simp only [maxLen]; omega) (by omega) HLE.out.size ?_; intro vS wS hownS hgrowS; have HLS := Lib.hid (below_grown HLE.out HOE.out hgrowS); clear hgrowS; rw [List.nil_append, Nat.zero_add] at hownS; obtain ⟨oV, cV, rfl, -⟩ := owns_form hownS; have HOS := Lib.hid hownS; clear hownS))
        go_roundw
        case rel => exact ⟨1, by omega, by go_num, HLS.out, (by rw [show spnNews 1 (fun _ => nightS f s) = [.int .i64 0, .int .i64 (f.hi - s.lo)] from (by simp [spnNews, nightS, HE1.out, HE2.out])]; exact HOS.out)⟩
        case measure => simp [intOf]
      · have m1 : f.lo - s.hi ≤ 0 := by omega
        have m2 : f.hi - s.lo ≤ 0 := by omega
        have e1 : max 0 (f.lo - s.hi) = 0 := by omega
        have e2 : max 0 (f.hi - s.lo) = 0 := by omega
        have HE1 := Lib.hid e1
        have HE2 := Lib.hid e2
        have HOE := Lib.hid (show (W1.alloc (.cells #[.int .i64 0, .int .i64 0] 34)).ownsRow w.heap.size 34 2 (.slice oV0 0 cV0) 0 [] from owns_below HO1.out (below_alloc1 _ _))
        have HLE := Lib.hid (L1.out.trans ((below_alloc1 W1 (.cells #[.int .i64 0, .int .i64 0] 34)).mono L1.out.size))
        have HNW := Lib.hid (show ∀ ad, some (⟨W1.heap.size, 0, none⟩ : Addr) = some ad → ∀ j9 u9, ([.int .i64 0, .int .i64 0] : List Value)[j9]? = some u9 → (W1.alloc (.cells #[.int .i64 0, .int .i64 0] 34)).cell? (ad.add j9) = some u9 from fun ad9 e9 j9 u9 hu9 => by cases e9; rw [add_flat, Nat.zero_add]; exact (Box.new #[.int .i64 0, .int .i64 0] 34 W1 rfl).cell j9 (by rw [List.getElem?_toArray]; exact hu9))
        clear e1 e2
        go_wp2_with (at_builtin; (refine wpList_append_gen rfl (.tmp 29) (.tmp 55) 22 rfl w.heap.size 34 iU _ 2 16 Tryd.underlying22 hiU hzU0 hzU1 hzU2 rfl (by omega) (.slice oV0 0 cV0) 0 [] rfl (some ⟨W1.heap.size, 0, none⟩) 1 1 [.int .i64 0, .int .i64 0] rfl HOE.out (fun e9 => by cases e9) rfl HNW.out (by simp [Value.oneCell']) (by simp only [maxLen]; omega) (by omega) HLE.out.size ?_; intro vS wS hownS hgrowS; have HLS := Lib.hid (below_grown HLE.out HOE.out hgrowS); clear hgrowS; rw [List.nil_append, Nat.zero_add] at hownS; obtain ⟨oV, cV, rfl, -⟩ := owns_form hownS; have HOS := Lib.hid hownS; clear hownS))
        go_roundw
        case rel => exact ⟨1, by omega, by go_num, HLS.out, (by rw [show spnNews 1 (fun _ => nightS f s) = [.int .i64 0, .int .i64 0] from (by simp [spnNews, nightS, HE1.out, HE2.out])]; exact HOS.out)⟩
        case measure => simp [intOf]
    · obtain rfl : k = 1 := by omega
      obtain ⟨oa, cap, rfl, hsp⟩ := owns_spns HO.out
      go_wp2_with fail
      go_ret2
      exact ⟨⟨oa, cap, rfl, hsp⟩, hb0⟩
end Go.Proofs.YtmeeknmjhlfnaaaDoor
