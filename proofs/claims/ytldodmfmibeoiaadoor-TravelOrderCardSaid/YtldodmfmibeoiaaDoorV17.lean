/- Travel: rows of trips; the closure of TravelEnds: a round with a further meter, tested once. -/
import Derived.Test.YtldodmfmibeoiaaDoorV16
import Derived.Test.YtldodmfmibeoiaaDoorRange2
namespace Go.Proofs.YtldodmfmibeoiaaDoor
open Go.RowKit
def trpNews (n : Nat) (f : Nat → Trp) : List Value := (List.range n).flatMap fun i => [.int .i64 (f i).b, .int .i64 (f i).m, .int .i64 (f i).lo, .int .i64 (f i).hi]
theorem trpNews_succ (n : Nat) (f : Nat → Trp) : trpNews (n + 1) f = trpNews n f ++ [.int .i64 (f n).b, .int .i64 (f n).m, .int .i64 (f n).lo, .int .i64 (f n).hi] := by simp [trpNews, List.range_succ, List.flatMap_append]
theorem trpNews_length (n : Nat) (f : Nat → Trp) : (trpNews n f).length = n * 4 := by
  induction n with
  | zero => rfl
  | succ n ih => rw [trpNews_succ, List.length_append, ih]; simp; omega
theorem trpNews_get {n : Nat} {f : Nat → Trp} {i : Nat} (hi : i < n) : (trpNews n f)[i * 4]? = some (.int .i64 (f i).b) ∧ (trpNews n f)[i * 4 + 1]? = some (.int .i64 (f i).m) ∧ (trpNews n f)[i * 4 + 1 + 1]? = some (.int .i64 (f i).lo) ∧ (trpNews n f)[i * 4 + 1 + 1 + 1]? = some (.int .i64 (f i).hi) := by
  induction n with
  | zero => omega
  | succ n ih =>
    rw [trpNews_succ]
    have hl := trpNews_length n f
    by_cases h : i = n
    · subst h
      rw [List.getElem?_append_right (by omega), List.getElem?_append_right (by omega), List.getElem?_append_right (by omega), List.getElem?_append_right (by omega), hl]
      simp [show i * 4 + 1 + 1 - i * 4 = 2 by omega, show i * 4 + 1 + 1 + 1 - i * 4 = 3 by omega]
    · obtain ⟨h0, h1, h2, h3⟩ := ih (by omega)
      rw [List.getElem?_append_left (by omega), List.getElem?_append_left (by omega), List.getElem?_append_left (by omega), List.getElem?_append_left (by omega)]
      exact ⟨h0, h1, h2, h3⟩
theorem owns_trps {w : World} {base e n : Nat} {v : Value} {f : Nat → Trp} (h : w.ownsRow base e 4 v n (trpNews n f)) : ∃ oa cap, v = .slice oa n cap ∧ TrpsAt w oa n f := by
  obtain ⟨oa, cap, rfl, hx⟩ := owns_form h
  refine ⟨oa, cap, rfl, fun i hi => ?_⟩
  obtain ⟨h0, h1, h2, h3⟩ := trpNews_get (f := f) hi
  obtain ⟨k, e0, hk, g0⟩ := hx _ _ h0
  obtain ⟨k1, e1, -, g1⟩ := hx _ _ h1
  obtain ⟨k2, e2, -, g2⟩ := hx _ _ h2
  obtain ⟨k3, e3, -, g3⟩ := hx _ _ h3
  subst e0
  cases e1
  cases e2
  cases e3
  exact ⟨k, 0, rfl, hk, by rw [Nat.zero_add]; exact g0, by rw [Nat.zero_add]; exact g1, by rw [Nat.zero_add]; exact g2, by rw [Nat.zero_add]; exact g3⟩
theorem trpNews_congr {f g : Nat → Trp} : ∀ {n}, (∀ i, i < n → f i = g i) → trpNews n f = trpNews n g
  | 0, _ => rfl
  | n + 1, h => by rw [trpNews_succ, trpNews_succ, trpNews_congr (fun i hi => h i (by omega)), h n (by omega)]
/-- the trips that are appended, as cells -/
theorem trps_news {w : World} {oa : Option Addr} {n : Nat} {f : Nat → Trp} (h : TrpsAt w oa n f) : ∀ ad, oa = some ad → ∀ j u, (trpNews n f)[j]? = some u → w.cell? (ad.add j) = some u := fun ad had j u hu => by
  have hj : j < n * 4 := by
    have := List.getElem?_eq_some_iff.1 hu
    obtain ⟨hl, -⟩ := this
    rw [trpNews_length] at hl; exact hl
  obtain ⟨b, off, e, -, c0, c1, c2, c3⟩ := h (j / 4) (by omega)
  rw [had] at e
  cases e
  obtain ⟨h0, h1, h2, h3⟩ := trpNews_get (n := n) (f := f) (i := j / 4) (by omega)
  rw [add_flat]
  rcases (by omega : j = j / 4 * 4 ∨ j = j / 4 * 4 + 1 ∨ j = j / 4 * 4 + 1 + 1 ∨ j = j / 4 * 4 + 1 + 1 + 1) with hj3 | hj3 | hj3 | hj3
  · rw [← hj3] at h0; rw [h0] at hu; cases hu
    rw [← hj3] at c0; exact c0
  · rw [← hj3] at h1; rw [h1] at hu; cases hu
    rw [Nat.add_assoc, ← hj3] at c1; exact c1
  · rw [← hj3] at h2; rw [h2] at hu; cases hu
    rw [show off + j / 4 * 4 + 1 + 1 = off + j by omega] at c2; exact c2
  · rw [← hj3] at h3; rw [h3] at hu; cases hu
    rw [show off + j / 4 * 4 + 1 + 1 + 1 = off + j by omega] at c3; exact c3
theorem trps_one {n : Nat} {f : Nat → Trp} : ∀ u ∈ trpNews n f, u.oneCell' = true := fun u hu => by
  simp only [trpNews, List.mem_flatMap] at hu
  obtain ⟨i, -, h⟩ := hu
  simp at h
  rcases h with rfl | rfl | rfl | rfl <;> rfl
/-- one box may have changed, and what was made since -/
structure AR (g : Nat) (cs : Array Value) (Wr A : World) : Prop where
  same : Same (fun b => b < Wr.heap.size ∧ b ≠ g) Wr A
  box : Box g cs 24 A
  lt : g < Wr.heap.size
theorem AR.on {g : Nat} {cs : Array Value} {Wr A B : World} (h : AR g cs Wr A) (hb : Below A.heap.size A B) : AR g cs Wr B := ⟨h.same.trans (Same.of_below hb fun _ hk _ => hk), h.box.below hb, h.lt⟩
theorem AR.grown {g : Nat} {cs : Array Value} {Wr A B : World} {base e size n : Nat} {v : Value} {xs : List Value} (h : AR g cs Wr A) (ho : A.ownsRow base e size v n xs) (hb : Wr.heap.size ≤ base) (hg : A.grownBy B v.ownBlock) : AR g cs Wr B := by
  have hrow : ∀ k, v.ownBlock = some k → Wr.heap.size ≤ k := fun k e => Nat.le_trans hb (ho.lt k e).1
  refine ⟨h.same.trans (Same.of_grownBy hg fun k e hp => ?_), ⟨(hg.block g h.box.lt (fun e => ?_)).trans h.box.row⟩, h.lt⟩
  · have := hrow k e; omega
  · have := hrow g e.symm; have := h.lt; omega
theorem TrpsAt.same4 {w w' : World} {oa : Option Addr} {n : Nat} {f : Nat → Trp} {g : Nat} {cs : Array Value} (h : TrpsAt w oa n f) (ha : AR g cs w w') (hne : ∀ a, 0 < n → oa = some a → a.block ≠ g) : TrpsAt w' oa n f := fun i hi => by
  obtain ⟨b, off, e, hl, c0, c1, c2, c3⟩ := h i hi
  have hb := hne _ (by omega) e
  have k := ha.same.block b hl ⟨hl, hb⟩
  exact ⟨b, off, e, Nat.lt_of_lt_of_le hl ha.same.size, (World.cell?_of_block (a := ⟨b, off + i * 4, none⟩) k).trans c0, (World.cell?_of_block (a := ⟨b, off + i * 4 + 1, none⟩) k).trans c1, (World.cell?_of_block (a := ⟨b, off + i * 4 + 1 + 1, none⟩) k).trans c2, (World.cell?_of_block (a := ⟨b, off + i * 4 + 1 + 1 + 1, none⟩) k).trans c3⟩
theorem Box.same {g : Nat} {cs : Array Value} {t : TypeId} {p : Nat → Prop} {w w' : World} (h : Box g cs t w) (hs : Same p w w') (hp : p g) : Box g cs t w' := ⟨(hs.block g h.lt hp).trans h.row⟩
/-- a round with a further meter that is tested once -/
def Rnd.ext (r : Rnd) (bench n : Int) : Rnd := ⟨r.nb, r.nm + 1, r.most, r.n + 1, fun i => if i < r.n then r.t i else ⟨bench, r.nm, n, n⟩⟩
theorem ext_news (r : Rnd) (bench n : Int) : trpNews r.n r.t ++ [.int .i64 bench, .int .i64 r.nm, .int .i64 n, .int .i64 n] = trpNews (r.n + 1) (r.ext bench n).t := by
  have e2 : (r.ext bench n).t r.n = ⟨bench, r.nm, n, n⟩ := if_neg (by omega)
  have e3 : trpNews r.n (r.ext bench n).t = trpNews r.n r.t := trpNews_congr fun i hi => if_pos hi
  rw [trpNews_succ, e2, e3]
/-- can the fault of the bench be a number -/
def Rnd.withB (r : Rnd) (off bench n : Int) : Bool := decide (((r.ext bench n).error off r.nm).e = 0 ∧ ((r.ext bench n).error off r.nm).lo ≤ 0 ∧ 0 ≤ ((r.ext bench n).error off r.nm).hi)
set_option maxRecDepth 100000 in
set_option maxHeartbeats 8000000 in
theorem with_any (r : Rnd) (oa : Option Addr) (ca : Nat) (off bench n : Int) (gX gB gO : Nat) (w : World) (hX : Box gX #[.int .i64 r.nb, .int .i64 r.nm, .int .i64 r.most, .slice oa r.n ca] 24 w) (hB : Box gB #[.int .i64 bench] 3 w) (hO : Box gO #[.int .i64 off] 3 w)
    (hA : TrpsAt w oa r.n r.t) (hT : TabAt 1 Lib.deBruijn64tab w) (hw1 : 1 < w.heap.size) (hn : r.n < 14) (hm0 : 1 ≤ r.nm) (hm : r.nm ≤ 6) (hnil : oa = none → r.n = 0 ∧ ca = 0) :
    Calls Tryd.prog 25 #[.int .i64 n, .pointer (some ⟨gX, 0, none⟩), .pointer (some ⟨gB, 0, none⟩), .pointer (some ⟨gO, 0, none⟩)] w fun e w' => e = .returned (.bool (r.withB off bench n)) ∧ Below w.heap.size w w' := by
  have HX := Lib.hid hX
  have HBB := Lib.hid hB
  have HO := Lib.hid hO
  have HA := Lib.hid hA
  have HT := Lib.hid hT
  have HW1 := Lib.hid hw1
  have HNIL := Lib.hid hnil
  have c0 := hX.cell 0 (v := .int .i64 r.nb) rfl
  have c1 := hX.cell 1 (v := .int .i64 r.nm) rfl
  have c2 := hX.cell 2 (v := .int .i64 r.most) rfl
  have c3 := hX.cell 3 (v := .slice oa r.n ca) rfl
  have c4 := hX.lt
  clear hX hB hO hA hT hnil hw1
  obtain ⟨iR, hiR, hzR0, hzR1, hzR2⟩ := info_parts (P := Tryd.prog) (e := 48) (z := .agg #[.int .i64 0, .int .i64 0, .int .i64 0, .int .i64 0]) (size := 4) (bytes := 32) (by kernel_rfl)
  obtain ⟨y, hy⟩ : ∃ y, y = r.ext bench n := ⟨_, rfl⟩
  have HY := Lib.hid hy
  have HWB := Lib.hid (show r.withB off bench n = decide ((y.error off r.nm).e = 0 ∧ (y.error off r.nm).lo ≤ 0 ∧ 0 ≤ (y.error off r.nm).hi) by rw [hy]; rfl)
  clear hy
  go_enter Tryd.func25, Tryd.ntmps25
  go_upto_region 3 with fail
  have hb0 := below_alloc1 w (.cells #[.int .i64 r.nb, .int .i64 (r.nm + 1), .int .i64 r.most, .slice oa r.n ca] 24)
  have zY := Box.new (g := w.heap.size) #[.int .i64 r.nb, .int .i64 (r.nm + 1), .int .i64 r.most, .slice oa r.n ca] 24 w rfl
  obtain ⟨X0, hW⟩ : ∃ X, X = w.alloc (.cells #[.int .i64 r.nb, .int .i64 (r.nm + 1), .int .i64 r.most, .slice oa r.n ca] 24) := ⟨_, rfl⟩
  rw [← hW] at hb0 zY ⊢
  clear hW
  have lX := HX.out.lt
  have lB := HBB.out.lt
  have lO := HO.out.lt
  have nX : gX ≠ w.heap.size := by omega
  have nB : gB ≠ w.heap.size := by omega
  have nO : gO ≠ w.heap.size := by omega
  have lY : w.heap.size ≤ w.heap.size := Nat.le_refl _
  have HNB := Lib.hid (show ∀ a, 0 < r.n → oa = some a → a.block ≠ w.heap.size from fun a h0 ha => by obtain ⟨b9, o9, e9, hl9, -⟩ := HA.out 0 h0; rw [ha] at e9; cases e9; show b9 ≠ _; omega)
  obtain ⟨gY, hG⟩ : ∃ G, G = w.heap.size := ⟨_, rfl⟩
  rw [← hG] at zY nX nB nO HNB ⊢
  have HGY := Lib.hid (show w.heap.size ≤ gY by omega)
  clear hG lX lB lO lY
  have HB0 := Lib.hid hb0
  have HX0 := Lib.hid (HX.out.below hb0)
  have HBB0 := Lib.hid (HBB.out.below hb0)
  have HO0 := Lib.hid (HO.out.below hb0)
  have HA0 := Lib.hid (HA.out.mono hb0)
  have ZY := Lib.hid zY
  clear hb0 zY HX HBB HO c0 c1 c2 c3 c4
  have hCC : ∀ A B : World, (∃ cs, AR gY cs X0 A) → Below A.heap.size A B → (∃ cs, AR gY cs X0 B) := fun A B h1 h2 => h1.imp fun _ h => h.on h2
  have hC0 : AR gY #[.int .i64 r.nb, .int .i64 (r.nm + 1), .int .i64 r.most, .slice oa r.n ca] X0 X0.drew := ⟨(Same.refl _ _).drew, ZY.out.drew, ZY.out.lt⟩
  refine wp_region_garb (fun A => ∃ cs, AR gY cs X0 A) (by kernel_rfl) ?_

  (refine wpAnyG_take (i := 1) hCC ⟨_, hC0⟩ rfl (by kernel_rfl) (by kernel_rfl) (by kernel_rfl) (fun _ _ _ _ h => h) (by rfl) ?_; apply Exists.intro; refine ⟨fun w1 h1 K hK => ?_, ?_⟩; · (have hZ : ∀ W : Aft w1, Same (fun b => b < X0.heap.size ∧ b ≠ gY) X0 W.val := fun W => (by obtain ⟨cs, h2⟩ := h1; exact (h2.on W.below).same);have zT : ∀ W : Aft w1, gX < W.val.heap.size := fun W => (HX0.out.same (hZ W) ⟨HX0.out.lt, nX⟩).lt; clear hZ; go_big_quiet_op; first | exact hK | fail))
  (refine wpAnyG_take (i := 2) hCC ⟨_, hC0⟩ rfl (by kernel_rfl) (by kernel_rfl) (by kernel_rfl) (fun _ _ _ _ h => h) (by rfl) ?_; apply Exists.intro; refine ⟨fun w1 h1 K hK => ?_, ?_⟩; · (have hZ : ∀ W : Aft w1, Same (fun b => b < X0.heap.size ∧ b ≠ gY) X0 W.val := fun W => (by obtain ⟨cs, h2⟩ := h1; exact (h2.on W.below).same);have g3 : ∀ W : Aft w1, W.val.cell? ⟨gX, 3, none⟩ = some (.slice oa r.n ca) := fun W => (HX0.out.same (hZ W) ⟨HX0.out.lt, nX⟩).cell 3 rfl; clear hZ; go_big_quiet_op; first | exact hK | fail))
  (refine wpAnyG_take (i := 4) hCC ⟨_, hC0⟩ rfl (by kernel_rfl) (by kernel_rfl) (by kernel_rfl) (fun _ _ _ _ h => h) (by rfl) ?_; apply Exists.intro; refine ⟨fun w1 h1 K hK => ?_, ?_⟩; · (have hZ : ∀ W : Aft w1, Same (fun b => b < X0.heap.size ∧ b ≠ gY) X0 W.val := fun W => (by obtain ⟨cs, h2⟩ := h1; exact (h2.on W.below).same);have g3 : ∀ W : Aft w1, W.val.cell? ⟨gB, 0, none⟩ = some (.int .i64 bench) := fun W => (HBB0.out.same (hZ W) ⟨HBB0.out.lt, nB⟩).cell 0 rfl; clear hZ; go_big_quiet_op; first | exact hK | fail))
  (refine wpAnyG_take (i := 5) hCC ⟨_, hC0⟩ rfl (by kernel_rfl) (by kernel_rfl) (by kernel_rfl) (fun _ _ _ _ h => h) (by rfl) ?_; apply Exists.intro; refine ⟨fun w1 h1 K hK => ?_, ?_⟩; · (have hZ : ∀ W : Aft w1, Same (fun b => b < X0.heap.size ∧ b ≠ gY) X0 W.val := fun W => (by obtain ⟨cs, h2⟩ := h1; exact (h2.on W.below).same);have zT : ∀ W : Aft w1, gX < W.val.heap.size := fun W => (HX0.out.same (hZ W) ⟨HX0.out.lt, nX⟩).lt; clear hZ; go_big_quiet_op; first | exact hK | fail))
  (refine wpAnyG_take (i := 6) hCC ⟨_, hC0⟩ rfl (by kernel_rfl) (by kernel_rfl) (by kernel_rfl) (fun _ _ _ _ h => h) (by rfl) ?_; apply Exists.intro; refine ⟨fun w1 h1 K hK => ?_, ?_⟩; · (have hZ : ∀ W : Aft w1, Same (fun b => b < X0.heap.size ∧ b ≠ gY) X0 W.val := fun W => (by obtain ⟨cs, h2⟩ := h1; exact (h2.on W.below).same);have g3 : ∀ W : Aft w1, W.val.cell? ⟨gX, 1, none⟩ = some (.int .i64 r.nm) := fun W => (HX0.out.same (hZ W) ⟨HX0.out.lt, nX⟩).cell 1 rfl; clear hZ; go_big_quiet_op; first | exact hK | fail))
  (refine wpAnyG_take (i := 7) hCC ⟨_, hC0⟩ rfl (by kernel_rfl) (by kernel_rfl) (by kernel_rfl) (fun _ _ _ _ h => h) (by rfl) ?_; apply Exists.intro; refine ⟨fun w1 h1 K hK => ?_, ?_⟩; · ( go_big_quiet_op; first | exact hK | fail))
  (refine wpAnyG_take (i := 8) hCC ⟨_, hC0⟩ rfl (by kernel_rfl) (by kernel_rfl) (by kernel_rfl) (fun _ _ _ _ h => h) (by rfl) ?_; apply Exists.intro; refine ⟨fun w1 h1 K hK => ?_, ?_⟩; · ( go_big_quiet_op; first | exact hK | fail))
  (refine wpAnyG_one (i := 0) (by kernel_rfl) rfl (by rfl) (fun wa hwa K hK => ?_))
  go_simp
  have hA0 := (hC0.on hwa).on (below_alloc1 wa (.cells #[] 48))
  have hL0 : X0.heap.size ≤ wa.heap.size := Nat.le_trans hC0.same.size hwa.size
  refine hK _ _ ⟨_, hA0⟩ ?_
  clear hK K
  have hown : (wa.alloc (.cells #[] 48)).ownsRow X0.heap.size 48 4 (.slice (some ⟨wa.heap.size, 0, none⟩) 0 0) 0 [] := owns_empty hL0 (heap_new rfl)
  clear hwa hC0
  obtain ⟨g0, hG⟩ : ∃ G, G = wa.heap.size := ⟨_, rfl⟩
  obtain ⟨wA, hWA⟩ : ∃ X, X = wa.alloc (.cells #[] 48) := ⟨_, rfl⟩
  rw [← hWA] at hown hA0 ⊢
  rw [← hG] at hown hL0 ⊢
  clear hG hWA
  have hC0 := hA0
  clear hA0
  (refine wpAnyG_one (i := 3) (by kernel_rfl) rfl (by rfl) (fun wa hwa K hK => ?_))
  have hC1 := hC0.on hwa
  have hown1 := owns_below hown hwa
  have hs4 : TrpsAt wa oa r.n r.t := HA0.out.same4 hC1 HNB.out
  refine wp_append_gen (.tmp 14) (.tmp 16) 22 rfl X0.heap.size 48 iR _ 4 32 Tryd.underlying22 hiR hzR0 hzR1 hzR2 rfl (by omega) (.slice (some ⟨g0, 0, none⟩) 0 0) 0 [] rfl hown1 oa r.n ca (trpNews r.n r.t) rfl HNIL.out (trpNews_length _ _) (trps_news hs4) trps_one (by simp only [maxLen]; omega) (by omega) hC1.same.size (fun vS wS hownS hgrowS => ?_)
  have hA0 := hC1.grown hown1 (Nat.le_refl _) hgrowS
  rw [List.nil_append, Nat.zero_add] at hownS
  clear hown1 hs4 hgrowS hC1 hown hwa hC0
  obtain ⟨oV, cV, rfl, -⟩ := owns_form hownS
  go_simp
  refine hK _ _ ⟨_, hA0⟩ ?_
  clear hK K
  have hC0 := hA0
  have hown := hownS
  clear hA0 hownS
  (refine wpAnyG_take (i := 9) hCC ⟨_, hC0⟩ rfl (by kernel_rfl) (by kernel_rfl) (by kernel_rfl) (fun _ _ _ _ h => h) (by rfl) ?_; apply Exists.intro; refine ⟨fun w1 h1 K hK => ?_, ?_⟩; · ( go_big_quiet_op; first | exact hK | exact ⟨_, fun W => aft_call (lspan_any _ _ _), hK⟩))
  (refine wpAnyG_take (i := 10) hCC ⟨_, hC0⟩ rfl (by kernel_rfl) (by kernel_rfl) (by kernel_rfl) (fun _ _ _ _ h => h) (by rfl) ?_; apply Exists.intro; refine ⟨fun w1 h1 K hK => ?_, ?_⟩; · ( go_big_quiet_op; first | exact hK | fail))
  (refine wpAnyG_one (i := 11) (by kernel_rfl) rfl (by rfl) (fun wa hwa K hK => ?_))
  go_simp
  have hA0 := (hC0.on hwa).on (below_alloc1 wa (.cells #[.int .i64 bench, .int .i64 r.nm, .int .i64 n, .int .i64 n] 48))
  refine hK _ _ ⟨_, hA0⟩ ?_
  clear hK K
  have zN := Box.new (g := wa.heap.size) #[.int .i64 bench, .int .i64 r.nm, .int .i64 n, .int .i64 n] 48 wa rfl
  have hown2 := owns_below (owns_below hown hwa) (below_alloc1 wa (.cells #[.int .i64 bench, .int .i64 r.nm, .int .i64 n, .int .i64 n] 48))
  clear hown
  clear hwa hC0
  obtain ⟨gN, hG⟩ : ∃ G, G = wa.heap.size := ⟨_, rfl⟩
  obtain ⟨wA, hWA⟩ : ∃ X, X = wa.alloc (.cells #[.int .i64 bench, .int .i64 r.nm, .int .i64 n, .int .i64 n] 48) := ⟨_, rfl⟩
  rw [← hWA] at zN hA0 hown2 ⊢
  rw [← hG] at zN ⊢
  clear hG hWA
  have hC0 := hA0
  clear hA0
  have hown := hown2
  clear hown2
  (refine wpAnyG_one (i := 12) (by kernel_rfl) rfl (by rfl) (fun wa hwa K hK => ?_))
  have hC1 := hC0.on hwa
  have hown1 := owns_below hown hwa
  have zN1 := zN.below hwa
  refine wp_append_gen (.tmp 17) (.tmp 25) 22 rfl X0.heap.size 48 iR _ 4 32 Tryd.underlying22 hiR hzR0 hzR1 hzR2 rfl (by omega) (.slice oV r.n cV) r.n (trpNews r.n r.t) rfl hown1 (some ⟨gN, 0, none⟩) 1 1 [.int .i64 bench, .int .i64 r.nm, .int .i64 n, .int .i64 n] rfl (fun e9 => by cases e9) rfl (fun ad9 e9 j9 u9 hu9 => by cases e9; rw [add_flat, Nat.zero_add]; exact zN1.cell j9 (by rw [List.getElem?_toArray]; exact hu9)) (by simp [Value.oneCell']) (by simp only [maxLen]; omega) (by omega) hC1.same.size (fun vS wS hownS hgrowS => ?_)
  have hA0 := hC1.grown hown1 (Nat.le_refl _) hgrowS
  rw [ext_news, ← HY.out] at hownS
  clear hown1 hgrowS hC1 hown hwa hC0 zN1 zN
  obtain ⟨oW, cW, rfl, -⟩ := owns_form hownS
  go_simp
  refine hK _ _ ⟨_, hA0⟩ ?_
  clear hK K
  (refine wpAnyG_one (i := 13) (by kernel_rfl) rfl (by rfl) (fun wb hwb K hK => ?_))
  go_simp
  refine hK _ _ ⟨_, hA0.on hwb⟩ ?_
  clear hK K
  (refine wpAnyG_one (i := 14) (by kernel_rfl) rfl (by rfl) (fun wc hwc K hK => ?_))
  have hA1 := (hA0.on hwb).on hwc
  have hownT := owns_below (owns_below hownS hwb) hwc
  refine wp_store_slice hA1.box rfl rfl rfl (by simp) (by kernel_rfl) (fun wd zd ho => ?_)
  dsimp only [Act.put]
  have hownU := owns_but hownT ho.but (own_ne hownT hA1.box (by decide))
  have hsd : Same (fun b => b < X0.heap.size ∧ b ≠ gY) X0 wd := hA1.same.trans ⟨ho.os, ho.tape, ho.output, Nat.le_of_eq ho.size.symm, fun b _ hp => ho.block b hp.2⟩
  have hA2 : AR gY #[.int .i64 r.nb, .int .i64 (r.nm + 1), .int .i64 r.most, .slice oW (r.n + 1) cW] X0 wd := ⟨hsd, zd, hA1.lt⟩
  refine hK _ _ ⟨_, hA2⟩ ?_
  clear hK K
  refine wpAnyG_done (by kernel_rfl) (fun wz hwz => ?_) _
  have hA := hA2.on hwz
  have hst9 := owns_below hownU hwz
  clear hA2 hwz hownU hownT hA1 hsd ho hownS hA0 hwb hwc zd
  obtain ⟨oa9, ca9, e9, hst⟩ := owns_trps hst9
  cases e9
  have hl5 : Below w.heap.size w wz := by
    have h4 := HB0.out
    have hg9 := HGY.out
    refine ⟨hA.same.os.trans h4.os, hA.same.tape.trans h4.tape, hA.same.output.trans h4.output, Nat.le_trans h4.size hA.same.size, fun k9 hk9 => ?_⟩
    rw [hA.same.block k9 (by have := h4.size; omega) ⟨by have := h4.size; omega, by omega⟩]
    exact h4.block k9 hk9
  have HL5 := Lib.hid hl5
  have HYY := Lib.hid hA.box
  have HSY := Lib.hid (show TrpsAt wz oW y.n y.t by rw [HY.out]; rw [HY.out] at hst; exact hst)
  have HXZ := Lib.hid (HX0.out.same hA.same ⟨HX0.out.lt, nX⟩)
  have HOZ := Lib.hid (HO0.out.same hA.same ⟨HO0.out.lt, nO⟩)
  have HYV := Lib.hid (show Rnd.val y oW cW = .agg #[.int .i64 r.nb, .int .i64 (r.nm + 1), .int .i64 r.most, .slice oW (r.n + 1) cW] by rw [HY.out]; rfl)
  have hyn : y.n ≤ 1000000 := by rw [HY.out]; show r.n + 1 ≤ _; omega
  clear hl5 hA hst hst9 HNB HB0 HX0 HBB0 HO0 HA0 ZY iR hiR hzR0 hzR1 hzR2 HNIL hCC
  have y0 := HYY.out.cell 0 (v := .int .i64 r.nb) rfl
  have y1 := HYY.out.cell 1 (v := .int .i64 (r.nm + 1)) rfl
  have y2 := HYY.out.cell 2 (v := .int .i64 r.most) rfl
  have y3 := HYY.out.cell 3 (v := .slice oW (r.n + 1) cW) rfl
  have y4 := HYY.out.lt
  have d0 := HOZ.out.cell 0 (v := .int .i64 off) rfl
  have d1 := HXZ.out.cell 1 (v := .int .i64 r.nm) rfl
  have d2 := HXZ.out.lt
  have hcl := error_any y oW cW off r.nm wz hyn (tab_below HT.out HW1.out HL5.out) (Nat.lt_of_lt_of_le HW1.out HL5.out.size) HSY.out
  rw [HYV.out] at hcl
  have HCL := Lib.hid hcl
  clear hcl
  go_wp2_with fail
  refine HCL.out.mono ?_
  rintro e X7 ⟨rfl, hb7⟩
  have HL7 := Lib.hid (HL5.out.trans (hb7.mono HL5.out.size))
  clear hb7 HL5 HYY HSY HXZ HOZ HCL y0 y1 y2 y3 y4 d0 d1 d2
  obtain ⟨T, hTT⟩ : ∃ T, T = y.error off r.nm := ⟨_, rfl⟩
  rw [← hTT] at HWB ⊢
  clear hTT
  obtain ⟨ta, tb, te⟩ := T
  dsimp only at HWB
  have hl7 := HL7.out
  have hs7 := HL7.out.size
  by_cases h1 : te = 0
  · subst h1
    by_cases h2 : ta ≤ 0
    · by_cases h3 : 0 ≤ tb
      · have HR := Lib.hid (show r.withB off bench n = true by rw [HWB.out]; simp; omega)
        go_wp2
        go_ret
        exact ⟨ret_bool (by rw [HR.out]; try simp; try omega), hl7.alloc hs7 _⟩
      · have HR := Lib.hid (show r.withB off bench n = false by rw [HWB.out]; simp; omega)
        go_wp2
        go_ret
        exact ⟨ret_bool (by rw [HR.out]; try simp; try omega), hl7.alloc hs7 _⟩
    · have HR := Lib.hid (show r.withB off bench n = false by rw [HWB.out]; simp; omega)
      go_wp2
      go_ret
      exact ⟨ret_bool (by rw [HR.out]; try simp; try omega), hl7.alloc hs7 _⟩
  · have HR := Lib.hid (show r.withB off bench n = false by rw [HWB.out]; simp; omega)
    have hq : (te == 0) = false := by simpa using h1
    go_wp2
    go_ret
    exact ⟨ret_bool (by rw [HR.out]; try simp; try omega), hl7.alloc hs7 _⟩
end Go.Proofs.YtldodmfmibeoiaaDoor
