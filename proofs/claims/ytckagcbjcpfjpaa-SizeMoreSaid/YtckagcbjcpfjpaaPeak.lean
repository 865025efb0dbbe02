/- Peak returns the greatest flow of a house that is valid. -/
import Derived.Test.YtckagcbjcpfjpaaStarved
namespace Go.Proofs.Ytckagcbjcpfjpaa
open Go.RowKit Go.Shelf
attribute [local go_sem] Oper.semAt_some
def House.peakStep (h : House) (a : Int × Int × Nat) (s : Nat) : Int × Int × Nat := (max a.1 (h.flo s), max a.2.1 (h.fhi s), if h.fhi s > a.2.1 then s else a.2.2)
def House.peakOf (h : House) (l : List Nat) : Int × Int × Nat := l.foldl h.peakStep (0, 0, 0)
def House.peak (h : House) : Int × Int × Nat := h.peakOf (h.opens (2 ^ h.nt))
theorem peakOf_snoc (h : House) (l : List Nat) (s : Nat) : h.peakOf (l ++ [s]) = h.peakStep (h.peakOf l) s := by simp [House.peakOf, List.foldl_append]
def PkCells (n : Nat) (a : Int × Int × Nat) (W : World) : Prop :=
  W.cell? ⟨n + 1, 0, none⟩ = some (.int .i64 a.1) ∧ W.cell? ⟨n + 1, 1, none⟩ = some (.int .i64 a.2.1) ∧ W.cell? ⟨n + 1 + 1, 0, none⟩ = some (.int .i64 (a.2.2 : Nat)) ∧
  W.frozen? ⟨n + 1, 0, none⟩ = false ∧ W.frozen? ⟨n + 1, 1, none⟩ = false ∧ W.frozen? ⟨n + 1 + 1, 0, none⟩ = false
theorem PkCells.same {n N : Nat} {a : Int × Int × Nat} {A B : World} (hN : n + 2 < N) (hc : PkCells n a A) (hs : Same (· < N) A B) : PkCells n a B := by
  obtain ⟨h1, h2, h3, h4, h5, h6⟩ := hc
  exact ⟨hs.cell_some h1 (by dsimp only; omega), hs.cell_some h2 (by dsimp only; omega), hs.cell_some h3 (by dsimp only; omega), hs.frozen_some h1 h4 (by dsimp only; omega), hs.frozen_some h2 h5 (by dsimp only; omega), hs.frozen_some h3 h6 (by dsimp only; omega)⟩
theorem PkCells.putObj {n : Nat} {a : Int × Int × Nat} {A : World} {l : Nat} (hc : PkCells n a A) (ho : ∃ o' : Obj, A.heap[l]? = some o' ∧ o'.isCells = false) (o : Obj) : PkCells n a (A.putObj l o) := by
  obtain ⟨h1, h2, h3, h4, h5, h6⟩ := hc
  exact ⟨cell_putObj h1 ho _, cell_putObj h2 ho _, cell_putObj h3 ho _, frozen_putObj h1 h4 ho _, frozen_putObj h2 h5 ho _, frozen_putObj h3 h6 ho _⟩
def PkI (h : House) (w : World) (pre : List Nat) (W : World) : Prop := PkCells w.heap.size (h.peakOf pre) W ∧ Below w.heap.size w W

theorem pk_set2 {n : Nat} {a : Int × Int × Nat} {W : World} (hc : PkCells n a W) (x y : Int) : PkCells n (x, y, a.2.2) ((W.setCell ⟨n + 1, 0, none⟩ (.int .i64 x)).setCell ⟨n + 1, 1, none⟩ (.int .i64 y)) := by
  obtain ⟨h1, h2, h3, h4, h5, h6⟩ := hc
  simp [PkCells, go_sem, h1, h2, h3, h4, h5, h6]
theorem pk_set1 {n : Nat} {a : Int × Int × Nat} {W : World} (hc : PkCells n a W) (z : Nat) : PkCells n (a.1, a.2.1, z) (W.setCell ⟨n + 1 + 1, 0, none⟩ (.int .i64 (z : Nat))) := by
  obtain ⟨h1, h2, h3, h4, h5, h6⟩ := hc
  simp [PkCells, go_sem, h1, h2, h3, h4, h5, h6]
theorem pk_drew {n : Nat} {a : Int × Int × Nat} {W : World} (hc : PkCells n a W) : PkCells n a W.drew := hc
theorem pk_of (h : House) {n : Nat} {pre : List Nat} {x : Nat} {A B : Int} {C : Nat} {W : World} (hc : PkCells n (A, B, C) W) (hA : A = max (h.peakOf pre).1 (h.flo x)) (hB : B = max (h.peakOf pre).2.1 (h.fhi x)) (hC : C = if h.fhi x > (h.peakOf pre).2.1 then x else (h.peakOf pre).2.2) :
    PkCells n (h.peakOf (pre ++ [x])) W := by
  rw [peakOf_snoc, House.peakStep, ← hA, ← hB, ← hC]; exact hc
theorem max_l {a b : Int} (h : b ≤ a) : a = max a b := by omega
theorem max_r {a b : Int} (h : a < b) : b = max a b := by omega

set_option maxRecDepth 100000 in
set_option maxHeartbeats 1000000 in
theorem peak_any (h : House) (ta ra : Option Addr) (tc rc : Nat) (w : World) (g1 : h.nt ≤ 1000000) (g2 : h.nr ≤ 1000000) (hT : TapsAt w ta h.nt h.t) (hR : RulesAt w ra h.nr h.r) (hv : h.valid = true) :
    Calls Try.prog 14 #[houseV h ta ra tc rc] w fun e w' => e = .returned (.tuple #[.agg #[.int .i64 h.peak.1, .int .i64 h.peak.2.1], .int .i64 (h.peak.2.2 : Nat), .int .i64 0]) ∧ Below w.heap.size w w' := by
  have HV := Lib.hid hv
  clear hv
  refine calls_of_wp_marks Try.func14 rfl ?_
  simp only [Try.ntmps14, List.size_toArray, List.length_cons, List.length_nil, Nat.reduceAdd, Nat.reduceSub, Array.replicate_succ, Array.replicate_zero, List.push_toArray, List.append_toArray, List.nil_append, List.cons_append]
  obtain ⟨Wa, hWa⟩ : ∃ X, X = ((w.alloc (.cells #[.int .i64 h.head, .int .i64 h.drip, .slice ta h.nt tc, .slice ra h.nr rc] 25)).alloc (.cells #[.int .i64 0, .int .i64 0] 31)).alloc (.cells #[.int .i64 0] 3) := ⟨_, rfl⟩
  have k0 : Wa.cell? ⟨w.heap.size, 0, none⟩ = some (.int .i64 h.head) ∧ Wa.cell? ⟨w.heap.size, 1, none⟩ = some (.int .i64 h.drip) ∧ Wa.cell? ⟨w.heap.size, 2, none⟩ = some (.slice ta h.nt tc) ∧ Wa.cell? ⟨w.heap.size, 3, none⟩ = some (.slice ra h.nr rc) := by rw [hWa]; simp [go_sem]
  have k1 : PkCells w.heap.size (0, 0, 0) Wa := by rw [hWa]; simp [PkCells, go_sem]
  have ks : Wa.heap.size = w.heap.size + 3 := by rw [hWa]; simp
  have kb : Below w.heap.size w Wa := by rw [hWa]; exact (by repeat' (first | exact Below.refl _ _ | assumption | apply below_drewN | apply Below.drew | (refine Below.alloc ?_ ?_ _) | (refine Below.setCell ?_ ?_ _) | (simp; done) | (simp; omega) | omega))
  go_wp2_with fail
  rw [← hWa]
  clear hWa
  refine (isHouse_any h ta ra tc rc _ g1 g2 (hT.mono kb) (hR.mono kb)).mono ?_
  rintro e w1 ⟨rfl, hb1⟩
  rw [HV.out]
  have hs1 := hb1.size
  have c0 := (hb1.cell (p := ⟨w.heap.size, 0, none⟩) (by dsimp only; omega)).trans k0.1
  have c1 := (hb1.cell (p := ⟨w.heap.size, 1, none⟩) (by dsimp only; omega)).trans k0.2.1
  have c2 := (hb1.cell (p := ⟨w.heap.size, 2, none⟩) (by dsimp only; omega)).trans k0.2.2.1
  have c3 := (hb1.cell (p := ⟨w.heap.size, 3, none⟩) (by dsimp only; omega)).trans k0.2.2.2
  have c4 := k1.same (N := Wa.heap.size) (by omega) (Same.of_below hb1 fun k _ h => h)
  have kb1 := kb.trans (hb1.mono (by omega))
  clear k0 k1 hb1
  go_wp2_with (go_at_call 36; refine (openf_any _ _ _ _ _ _).mono ?_; rintro e w2 ⟨rfl, rfl⟩)
  have k7 : (w1.alloc (.cells #[.int .i64 h.head, .int .i64 h.drip, .slice ta h.nt tc, .slice ra h.nr rc] 25)).cell? ⟨w1.heap.size, 2, none⟩ = some (.slice ta h.nt tc) := by simp [go_sem]
  have k8 : (w1.alloc (.cells #[.int .i64 h.head, .int .i64 h.drip, .slice ta h.nt tc, .slice ra h.nr rc] 25)).cell? ⟨w1.heap.size, 3, none⟩ = some (.slice ra h.nr rc) := by simp [go_sem]
  have c5 := c4.same (N := w1.heap.size) (by omega) ((Same.refl _ _).alloc (.cells #[.int .i64 h.head, .int .i64 h.drip, .slice ta h.nt tc, .slice ra h.nr rc] 25))
  have kb2 : Below w.heap.size w (w1.alloc (.cells #[.int .i64 h.head, .int .i64 h.drip, .slice ta h.nt tc, .slice ra h.nr rc] 25)) := kb1.alloc (by omega) _
  have ks2 : (w1.alloc (.cells #[.int .i64 h.head, .int .i64 h.drip, .slice ta h.nt tc, .slice ra h.nr rc] 25)).heap.size = w1.heap.size + 1 := by simp
  obtain ⟨W0, hW0⟩ : ∃ X, X = w1.alloc (.cells #[.int .i64 h.head, .int .i64 h.drip, .slice ta h.nt tc, .slice ra h.nr rc] 25) := ⟨_, rfl⟩
  rw [← hW0] at k7 k8 c5 kb2 ks2 ⊢
  clear hW0 c0 c1 c2 c3 c4
  refine (wpIn_wide (n := 8)).1 ?_
  refine wpIn_rangeFunc_B (α := Nat) rfl (by omega) (gf := 53) (lb := #[.pointer (some ⟨w1.heap.size, 0, none⟩)]) rfl trivial (enters_of Try.func53 (by kernel_rfl) rfl)
    (open_seq h HV.out ta ra tc rc w1.heap.size w W0 hT hR kb2 (by omega) k7 k8 (8 - 1) (by omega)) (Same.refl _ _) (fun k hk => by omega) (fun _ => rfl)
    (PkI h w) (fun _ _ _ => False)
    (fun s A B ⟨h1, h8⟩ hs => ⟨h1.same (by omega) hs, h8.trans (hs.below h8.size (fun k hk => by omega))⟩)
    (fun c s A B hf hs => hf)
    ⟨c5, kb2⟩
    (fun pre x a' W => ∃ Bx, W0.heap.size ≤ Bx ∧ PkI h w pre W ∧ DrawAt h x Bx W ∧ a' = { tmps := #[houseV h ta ra tc rc, .pointer (some ⟨w.heap.size, 0, none⟩), .pointer (some ⟨w.heap.size + 1, 0, none⟩), .pointer (some ⟨w.heap.size + 1 + 1, 0, none⟩), .int .i64 0, .int .i64 (x : Nat), .pointer (some ⟨Bx, 0, none⟩),
      .agg #[.int .i64 h.head, .int .i64 h.drip, .slice ta h.nt tc, .slice ra h.nr rc], .bool true, .bool false, undef, .agg #[.int .i64 h.head, .int .i64 h.drip, .slice ta h.nt tc, .slice ra h.nr rc], .func (.func 53) #[] #[.pointer (some ⟨w1.heap.size, 0, none⟩)], .int .i64 (x : Nat), h.draw x,
      undef, undef, undef, undef, undef, undef, undef, undef, undef, undef, undef, undef, undef, undef, undef, undef, undef, undef, undef, undef, undef, undef], defers := [] })
    (fun pre x a' A l o hl ho ⟨Bx, hB, ⟨h1, h8⟩, h9, h12⟩ => ⟨Bx, hB, ⟨h1.putObj ho _, below_putObj h8 (by omega) _⟩, h9.putObj ho _, h12⟩)
    ?assign ?body ?done ?stop
  case assign =>
    intro l pre x W K hl hlW hi hlen hK
    obtain ⟨i1, i2⟩ := hi
    have HK := Lib.hid hK
    clear hK
    gi_wp2
    refine HK.out _ _ ((Same.refl _ _).alloc _) ⟨W.heap.size, ?_, ⟨i1.same (N := W.heap.size) ?_ (((Same.refl _ _).alloc _)), i2.alloc i2.size _⟩, cells3_new _ _ _ _ _, rfl⟩
    · omega
    · omega
  case body =>
    rintro l pre x a' W hl ⟨r, hr⟩ ⟨Bx, hB, ⟨⟨c0, c1, c2, c3, c4, c5⟩, i2⟩, ⟨d0, d1, d2⟩, rfl⟩ hlen
    clear hr
    have n2 := fhi_bd HV.out x
    have n3 := flo_bd HV.out x
    have hpk : PkCells w.heap.size (h.peakOf pre) W := ⟨c0, c1, c2, c3, c4, c5⟩
    have HP := Lib.hid hpk
    clear hpk
    by_cases hq : (h.peakOf pre).2.1 < h.fhi x
    · have HQ := Lib.hid hq
      gi_wp2
      all_goals
        refine ⟨(((Same.refl _ _).setCell (by dsimp only; omega) _).setCell (by dsimp only; omega) _).setCell (by dsimp only; omega) _, pk_of h (pk_set2 (pk_set1 HP.out x) _ _) ?_ ?_ ?_, ((i2.setCell (by dsimp only; omega) _).setCell (by dsimp only; omega) _).setCell (by dsimp only; omega) _⟩
        · rfl
        · rfl
        · rw [if_pos HQ.out]
    · have HQ := Lib.hid hq
      gi_wp2
      all_goals
        refine ⟨((Same.refl _ _).setCell (by dsimp only; omega) _).setCell (by dsimp only; omega) _, pk_of h (pk_set2 HP.out _ _) ?_ ?_ ?_, (i2.setCell (by dsimp only; omega) _).setCell (by dsimp only; omega) _⟩
        · rfl
        · rfl
        · rw [if_neg (by have := HQ.out; omega)]
  case done =>
    rintro D xs W hD rfl ⟨⟨c0, c1, c2, c3, c4, c5⟩, i2⟩ hK
    have hpk : PkCells w.heap.size (h.peakOf (h.opens (2 ^ h.nt))) W := ⟨c0, c1, c2, c3, c4, c5⟩
    have HP := Lib.hid hpk
    clear hpk
    go_wp2
    go_region
    go_wp2
    have hK' : (((W.setCell ⟨w.heap.size + 1, 0, none⟩ (.int .i64 (h.peakOf (h.opens (2 ^ h.nt))).1)).setCell ⟨w.heap.size + 1, 1, none⟩ (.int .i64 (h.peakOf (h.opens (2 ^ h.nt))).2.1)).setCell ⟨w.heap.size + 1 + 1, 0, none⟩ (.int .i64 ((h.peakOf (h.opens (2 ^ h.nt))).2.2 : Nat))).drew.heap[D]? = some (.deferred (some [])) := by
      show (((W.setCell _ _).setCell _ _).setCell _ _).heap[D]? = _
      rw [Below.heap_setCell _ _ _ _ (by dsimp only; omega), Below.heap_setCell _ _ _ _ (by dsimp only; omega), Below.heap_setCell _ _ _ _ (by dsimp only; omega)]; exact hK
    have i3 := (((i2.setCell (p := ⟨w.heap.size + 1, 0, none⟩) (by dsimp only; omega) (.int .i64 (h.peakOf (h.opens (2 ^ h.nt))).1)).setCell (p := ⟨w.heap.size + 1, 1, none⟩) (by dsimp only; omega) (.int .i64 (h.peakOf (h.opens (2 ^ h.nt))).2.1)).setCell (p := ⟨w.heap.size + 1 + 1, 0, none⟩) (by dsimp only; omega) (.int .i64 ((h.peakOf (h.opens (2 ^ h.nt))).2.2 : Nat))).drew
    obtain ⟨j1, j2, j3, _⟩ := (pk_drew (pk_set1 (pk_set2 HP.out (h.peakOf (h.opens (2 ^ h.nt))).1 (h.peakOf (h.opens (2 ^ h.nt))).2.1) (h.peakOf (h.opens (2 ^ h.nt))).2.2)).putObj ⟨_, hK', rfl⟩ (.deferred none)
    refine leave_mark (v := .tuple #[.agg #[.int .i64 h.peak.1, .int .i64 h.peak.2.1], .int .i64 (h.peak.2.2 : Nat), .int .i64 0]) (.inl rfl) hK' ?_ ⟨rfl, below_putObj i3 (by omega) _⟩
    simp [results, Try.results14, go_sem, j1, j2, j3, House.peak]
  case stop =>
    rintro D c pre W hD hpre hx hK
    exact hx.elim
end Go.Proofs.Ytckagcbjcpfjpaa
