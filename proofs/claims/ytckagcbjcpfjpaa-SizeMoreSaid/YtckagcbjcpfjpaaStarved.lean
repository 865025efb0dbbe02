/- starved returns the first set that a size starves; Starved returns it with its error. -/
import Derived.Test.YtckagcbjcpfjpaaIter
namespace Go.Proofs.Ytckagcbjcpfjpaa
open Go.RowKit Go.Shelf
attribute [local go_sem] Oper.semAt_some
def House.starves (h : House) (m : Meter) (s : Nat) : Bool := s != 0 && (decide (h.fhi s > m.full) || decide (m.loss * h.fhi s * h.fhi s > (h.head - h.need s) * m.full * m.full))
def House.starved (h : House) (m : Meter) : Nat × Bool :=
  match (h.opens (2 ^ h.nt)).find? (h.starves m) with
  | some s => (s, !decide (h.fhi s > m.full))
  | none => (0, false)
def Meter.fair (m : Meter) : Prop := 1 ≤ m.full ∧ m.full ≤ 1000000 ∧ 0 ≤ m.loss ∧ m.loss ≤ 10000

theorem openf_any (h : House) (ta ra : Option Addr) (tc rc : Nat) (w : World) :
    Calls Try.prog 36 #[houseV h ta ra tc rc] w fun e w' => e = .returned (.func (.func 53) #[] #[.pointer (some ⟨w.heap.size, 0, none⟩)]) ∧ w.alloc (.cells #[.int .i64 h.head, .int .i64 h.drip, .slice ta h.nt tc, .slice ra h.nr rc] 25) = w' := by
  go_enter Try.func36, Try.ntmps36
  go_wp2
  go_ret
  exact ⟨rfl, rfl⟩

/-- between two rounds of starved's loop -/
def StCells (h : House) (m : Meter) (n : Nat) (W : World) : Prop :=
  W.cell? ⟨n, 0, none⟩ = some (.int .i64 h.head) ∧ W.cell? ⟨n + 1, 1, none⟩ = some (.int .i64 m.full) ∧ W.cell? ⟨n + 1, 2, none⟩ = some (.int .i64 m.loss) ∧
  W.cell? ⟨n + 1 + 1, 0, none⟩ = some (.int .i64 0) ∧ W.cell? ⟨n + 1 + 1, 1, none⟩ = some (.bool false) ∧ W.frozen? ⟨n + 1 + 1, 0, none⟩ = false ∧ W.frozen? ⟨n + 1 + 1, 1, none⟩ = false
theorem StCells.same {h : House} {m : Meter} {n N : Nat} {A B : World} (hN : n + 2 < N) (hc : StCells h m n A) (hs : Same (· < N) A B) : StCells h m n B := by
  obtain ⟨h1, h2, h3, h4, h5, h6, h7⟩ := hc
  exact ⟨hs.cell_some h1 (by dsimp only; omega), hs.cell_some h2 (by dsimp only; omega), hs.cell_some h3 (by dsimp only; omega), hs.cell_some h4 (by dsimp only; omega), hs.cell_some h5 (by dsimp only; omega), hs.frozen_some h4 h6 (by dsimp only; omega), hs.frozen_some h5 h7 (by dsimp only; omega)⟩
theorem StCells.putObj {h : House} {m : Meter} {n : Nat} {A : World} {l : Nat} (hc : StCells h m n A) (ho : ∃ o' : Obj, A.heap[l]? = some o' ∧ o'.isCells = false) (o : Obj) : StCells h m n (A.putObj l o) := by
  obtain ⟨h1, h2, h3, h4, h5, h6, h7⟩ := hc
  exact ⟨cell_putObj h1 ho _, cell_putObj h2 ho _, cell_putObj h3 ho _, cell_putObj h4 ho _, cell_putObj h5 ho _, frozen_putObj h4 h6 ho _, frozen_putObj h5 h7 ho _⟩
def StI (h : House) (m : Meter) (w : World) (pre : List Nat) (W : World) : Prop := (∀ s, s ∈ pre → h.starves m s = false) ∧ StCells h m w.heap.size W ∧ Below w.heap.size w W
def StX (h : House) (m : Meter) (w : World) (c : Code) (pre : List Nat) (W : World) : Prop :=
  c = .ret ∧ (∃ p s, pre = p ++ [s] ∧ (∀ s, s ∈ p → h.starves m s = false) ∧ h.starves m s = true ∧ W.cell? ⟨w.heap.size + 1 + 1, 0, none⟩ = some (.int .i64 (s : Nat)) ∧ W.cell? ⟨w.heap.size + 1 + 1, 1, none⟩ = some (.bool (!decide (h.fhi s > m.full)))) ∧ Below w.heap.size w W
def DrawAt (h : House) (x B : Nat) (W : World) : Prop := W.cell? ⟨B, 0, none⟩ = some (.int .i64 (h.flo x)) ∧ W.cell? ⟨B, 1, none⟩ = some (.int .i64 (h.fhi x)) ∧ W.cell? ⟨B, 2, none⟩ = some (.int .i64 (h.need x))
theorem DrawAt.putObj {h : House} {x B : Nat} {A : World} {l : Nat} (hc : DrawAt h x B A) (ho : ∃ o' : Obj, A.heap[l]? = some o' ∧ o'.isCells = false) (o : Obj) : DrawAt h x B (A.putObj l o) := by
  obtain ⟨h1, h2, h3⟩ := hc
  exact ⟨cell_putObj h1 ho _, cell_putObj h2 ho _, cell_putObj h3 ho _⟩
def stAct (h : House) (m : Meter) (ta ra : Option Addr) (tc rc n x Bx : Nat) : Act :=
  { tmps := #[houseV h ta ra tc rc, m.val, .pointer (some ⟨n, 0, none⟩), .pointer (some ⟨n + 1, 0, none⟩), .pointer (some ⟨n + 1 + 1, 0, none⟩), .int .i64 (x : Nat), .pointer (some ⟨Bx, 0, none⟩), undef, .agg #[.int .i64 h.head, .int .i64 h.drip, .slice ta h.nt tc, .slice ra h.nr rc],
        .func (.func 53) #[] #[.pointer (some ⟨n + 1 + 1 + 1, 0, none⟩)], .int .i64 (x : Nat), h.draw x, undef, undef, undef, undef, undef, undef, undef, undef, undef, undef, undef, undef, undef, undef, undef, undef, undef, undef, undef, undef, undef, undef, undef, undef, undef, undef, undef, undef, undef, undef, undef, undef, undef, undef, undef], defers := [] }
theorem find_none {α : Type} {p : α → Bool} {l : List α} (h : ∀ x, x ∈ l → p x = false) : l.find? p = none := List.find?_eq_none.2 fun x hx => by simp [h x hx]
theorem find_some {α : Type} {p : α → Bool} {l a : List α} {x : α} (h : (a ++ [x]) <+: l) (ha : ∀ y, y ∈ a → p y = false) (hx : p x = true) : l.find? p = some x := by
  obtain ⟨b, rfl⟩ := h
  simp [List.find?_append, find_none ha, hx]
theorem need_bd {h : House} (hv : h.valid = true) (s : Nat) : 0 ≤ h.need s ∧ h.need s ≤ 10000 := by
  refine ⟨maxN_nonneg, ?_⟩
  unfold House.need
  have : ∀ n, n ≤ h.nt → maxN n (fun k => if bitAt s k then (h.t k).need else 0) ≤ 10000 := fun n => by
    induction n with
    | zero => intro _; simp [maxN]
    | succ n ih =>
      intro hn
      have := ih (by omega)
      have ht := valid_tap hv n (by omega)
      simp only [maxN]
      split <;> omega
  exact this _ (Nat.le_refl _)
theorem mulsb {a b : Int} {x y : Int} (h1 : -x ≤ a) (h2 : a ≤ x) (h3 : 0 ≤ b) (h4 : b ≤ y) : -(x * y) ≤ a * b ∧ a * b ≤ x * y := by
  have hx : 0 ≤ x := by omega
  have k1 : x * b ≤ x * y := Int.mul_le_mul_of_nonneg_left h4 hx
  have k2 : a * b ≤ x * b := Int.mul_le_mul_of_nonneg_right h2 h3
  have k3 : -x * b ≤ a * b := Int.mul_le_mul_of_nonneg_right h1 h3
  rw [Int.neg_mul] at k3
  omega
theorem mulb {a b : Int} {x y : Int} (h1 : 0 ≤ a) (h2 : a ≤ x) (h3 : 0 ≤ b) (h4 : b ≤ y) : 0 ≤ a * b ∧ a * b ≤ x * y := ⟨Int.mul_nonneg h1 h3, Int.mul_le_mul h2 h4 h3 (by omega)⟩

set_option maxRecDepth 100000 in
set_option maxHeartbeats 1000000 in
theorem starved_any (h : House) (m : Meter) (hv : h.valid = true) (hm : m.fair) (ta ra : Option Addr) (tc rc : Nat) (w : World) (hT : TapsAt w ta h.nt h.t) (hR : RulesAt w ra h.nr h.r) :
    Calls Try.prog 39 #[houseV h ta ra tc rc, m.val] w fun e w' => e = .returned (.agg #[.int .i64 ((h.starved m).1 : Nat), .bool (h.starved m).2]) ∧ Below w.heap.size w w' := by
  refine calls_of_wp_marks Try.func39 rfl ?_
  simp only [Try.ntmps39, List.size_toArray, List.length_cons, List.length_nil, Nat.reduceAdd, Nat.reduceSub, Array.replicate_succ, Array.replicate_zero, List.push_toArray, List.append_toArray, List.nil_append, List.cons_append]
  go_wp2_with (go_at_call 36; refine (openf_any _ _ _ _ _ _).mono ?_; rintro e w1 ⟨rfl, rfl⟩)
  obtain ⟨W0, hW0⟩ : ∃ X, X = ((((w.alloc (.cells #[.int .i64 h.head, .int .i64 h.drip, .slice ta h.nt tc, .slice ra h.nr rc] 25)).alloc (.cells #[.int .i64 m.start, .int .i64 m.full, .int .i64 m.loss, .int .i64 m.price] 27)).alloc (.cells #[.int .i64 0, .bool false] 77)).alloc (.cells #[.int .i64 h.head, .int .i64 h.drip, .slice ta h.nt tc, .slice ra h.nr rc] 25)) := ⟨_, rfl⟩
  have k0 : W0.cell? ⟨w.heap.size, 0, none⟩ = some (.int .i64 h.head) := by rw [hW0]; simp [go_sem]
  have k1 : W0.cell? ⟨w.heap.size + 1, 1, none⟩ = some (.int .i64 m.full) := by rw [hW0]; simp [go_sem]
  have k2 : W0.cell? ⟨w.heap.size + 1, 2, none⟩ = some (.int .i64 m.loss) := by rw [hW0]; simp [go_sem]
  have k3 : W0.cell? ⟨w.heap.size + 1 + 1, 0, none⟩ = some (.int .i64 0) := by rw [hW0]; simp [go_sem]
  have k4 : W0.cell? ⟨w.heap.size + 1 + 1, 1, none⟩ = some (.bool false) := by rw [hW0]; simp [go_sem]
  have k5 : W0.frozen? ⟨w.heap.size + 1 + 1, 0, none⟩ = false := by rw [hW0]; simp [go_sem]
  have k6 : W0.frozen? ⟨w.heap.size + 1 + 1, 1, none⟩ = false := by rw [hW0]; simp [go_sem]
  have k7 : W0.cell? ⟨w.heap.size + 1 + 1 + 1, 2, none⟩ = some (.slice ta h.nt tc) := by rw [hW0]; simp [go_sem]
  have k8 : W0.cell? ⟨w.heap.size + 1 + 1 + 1, 3, none⟩ = some (.slice ra h.nr rc) := by rw [hW0]; simp [go_sem]
  have ks : W0.heap.size = w.heap.size + 4 := by rw [hW0]; simp
  have kb : Below w.heap.size w W0 := by rw [hW0]; exact (by repeat' (first | exact Below.refl _ _ | assumption | apply below_drewN | apply Below.drew | (refine Below.alloc ?_ ?_ _) | (refine Below.setCell ?_ ?_ _) | (simp; done) | (simp; omega) | omega))
  rw [← hW0]
  clear hW0
  refine (wpIn_wide (n := 8)).1 ?_
  refine wpIn_rangeFunc_B (α := Nat) rfl (by omega) (gf := 53) (lb := #[.pointer (some ⟨w.heap.size + 1 + 1 + 1, 0, none⟩)]) rfl trivial (enters_of Try.func53 (by kernel_rfl) rfl)
    (open_seq h hv ta ra tc rc (w.heap.size + 1 + 1 + 1) w W0 hT hR kb (by omega) k7 k8 (8 - 1) (by omega)) (Same.refl _ _) (fun k hk => by omega) (fun _ => rfl)
    (StI h m w) (StX h m w)
    (fun s A B ⟨h0, h1, h8⟩ hs => ⟨h0, h1.same (by omega) hs, h8.trans (hs.below h8.size (fun k hk => by omega))⟩)
    (fun c s A B ⟨h0, ⟨p, x, h1, h2, h3, h4, h5⟩, h8⟩ hs => ⟨h0, ⟨p, x, h1, h2, h3, hs.cell_some h4 (by dsimp only; omega), hs.cell_some h5 (by dsimp only; omega)⟩, h8.trans (hs.below h8.size (fun k hk => by omega))⟩)
    ⟨by simp, ⟨k0, k1, k2, k3, k4, k5, k6⟩, kb⟩
    (fun pre x a' W => ∃ Bx, W0.heap.size ≤ Bx ∧ StI h m w pre W ∧ DrawAt h x Bx W ∧ a' = stAct h m ta ra tc rc w.heap.size x Bx)
    (fun pre x a' A l o hl ho ⟨Bx, hB, ⟨h0, h1, h8⟩, h9, h12⟩ => ⟨Bx, hB, ⟨h0, h1.putObj ho _, below_putObj h8 (by omega) _⟩, h9.putObj ho _, h12⟩)
    ?assign ?body ?done ?stop
  case assign =>
    intro l pre x W K hl hlW hi hlen hK
    obtain ⟨i0, i1, i2⟩ := hi
    have HK := Lib.hid hK
    clear hK
    gi_wp2
    refine HK.out _ _ ((Same.refl _ _).alloc _) ⟨W.heap.size, ?_, ⟨i0, i1.same (N := W.heap.size) ?_ (((Same.refl _ _).alloc _)), i2.alloc i2.size _⟩, cells3_new _ _ _ _ _, rfl⟩
    · omega
    · omega
  case body =>
    rintro l pre x a' W hl ⟨r, hr⟩ ⟨Bx, hB, ⟨i0, ⟨c0, c1, c2, c3, c4, c5, c6⟩, i2⟩, ⟨d0, d1, d2⟩, rfl⟩ hlen
    have I0 := Lib.hid i0
    clear i0 hr
    unfold stAct
    obtain ⟨m1, m2, m3, m4⟩ := hm
    have n1 := valid_nt hv
    have n2 := fhi_bd hv x
    have n3 := need_bd hv x
    have p1 := mulb (a := m.loss) (b := h.fhi x) (x := 10000) (y := 1000000) m3 m4 n2.1 n2.2
    have p2 := mulb (a := m.loss * h.fhi x) (b := h.fhi x) (x := 10000 * 1000000) (y := 1000000) p1.1 p1.2 n2.1 n2.2
    have p3 := mulsb (a := h.head - h.need x) (b := m.full) (x := 10000) (y := 1000000) (by omega) (by omega) (by omega) m2
    have p4 := mulsb (a := (h.head - h.need x) * m.full) (b := m.full) (x := 10000 * 1000000) (y := 1000000) p3.1 p3.2 (by omega) m2
    have hI : ∀ W', Below w.heap.size w W' → StCells h m w.heap.size W' → h.starves m x = false → StI h m w (pre ++ [x]) W' := fun W' g1 g2 g3 =>
      ⟨fun s hs => by
        rcases List.mem_append.1 hs with h | h
        · exact I0.out s h
        · rw [List.mem_singleton.1 h]; exact g3, g2, g1⟩
    have HI := Lib.hid hI
    clear hI
    by_cases hx0 : x = 0
    · have hb : ((x : Int) == 0) = true := by simpa using hx0
      have hst : h.starves m x = false := by simp [House.starves, hx0]
      have HS := Lib.hid hst
      clear hx0 hst
      gi_wp2
      exact ⟨Same.refl _ _, HI.out _ i2 ⟨c0, c1, c2, c3, c4, c5, c6⟩ HS.out⟩
    · have hb : ((x : Int) == 0) = false := by simpa using hx0
      by_cases hq : m.full < h.fhi x
      · have hst : h.starves m x = true := by simp [House.starves, hx0, hq]
        have HS := Lib.hid hst
        clear hst hx0
        gi_wp2
        refine ⟨?_, rfl, ⟨pre, x, rfl, I0.out, HS.out, ?_, ?_⟩, ?_⟩
        · exact ((Same.refl _ _).setCell (by dsimp only; omega) _).setCell (by dsimp only; omega) _
        · simp [go_sem, c3]
        · simp [go_sem, c4, hq]
        · exact (i2.setCell (by dsimp only; omega) _).setCell (by dsimp only; omega) _
      · by_cases hp : (h.head - h.need x) * m.full * m.full < m.loss * h.fhi x * h.fhi x
        · have hst : h.starves m x = true := by simp [House.starves, hx0, hp]
          have HS := Lib.hid hst
          have HQ := Lib.hid hq
          clear hst hx0
          gi_wp2
          refine ⟨?_, rfl, ⟨pre, x, rfl, I0.out, HS.out, ?_, ?_⟩, ?_⟩
          · exact ((Same.refl _ _).setCell (by dsimp only; omega) _).setCell (by dsimp only; omega) _
          · simp [go_sem, c3]
          · have hq := HQ.out
            simp [go_sem, c4]; omega
          · exact (i2.setCell (by dsimp only; omega) _).setCell (by dsimp only; omega) _
        · have hst : h.starves m x = false := by simp [House.starves, hx0]; omega
          have HS := Lib.hid hst
          clear hst hx0
          gi_wp2
          exact ⟨Same.refl _ _, HI.out _ i2 ⟨c0, c1, c2, c3, c4, c5, c6⟩ HS.out⟩
  case done =>
    rintro D xs W hD rfl ⟨i0, ⟨c0, c1, c2, c3, c4, c5, c6⟩, i2⟩ hK
    have hst : h.starved m = (0, false) := by simp only [House.starved]; rw [find_none i0]
    have HS := Lib.hid hst
    clear hst i0
    go_wp2
    have hf3 : ((W.setCell ⟨w.heap.size + 1 + 1, 0, none⟩ (.int .i64 0)).setCell ⟨w.heap.size + 1 + 1, 1, none⟩ (.bool false)).cell? ⟨w.heap.size + 1 + 1, 0, none⟩ = some (.int .i64 0) := by simp [go_sem, c3]
    have hf4 : ((W.setCell ⟨w.heap.size + 1 + 1, 0, none⟩ (.int .i64 0)).setCell ⟨w.heap.size + 1 + 1, 1, none⟩ (.bool false)).cell? ⟨w.heap.size + 1 + 1, 1, none⟩ = some (.bool false) := by simp [go_sem, c4]
    have hK' : ((W.setCell ⟨w.heap.size + 1 + 1, 0, none⟩ (.int .i64 0)).setCell ⟨w.heap.size + 1 + 1, 1, none⟩ (.bool false)).heap[D]? = some (.deferred (some [])) := by
      rw [Below.heap_setCell _ _ _ _ (by dsimp only; omega), Below.heap_setCell _ _ _ _ (by dsimp only; omega)]; exact hK
    have i3 : Below w.heap.size w ((W.setCell ⟨w.heap.size + 1 + 1, 0, none⟩ (.int .i64 0)).setCell ⟨w.heap.size + 1 + 1, 1, none⟩ (.bool false)) := (i2.setCell (by dsimp only; omega) _).setCell (by dsimp only; omega) _
    have hg3 := cell_putObj hf3 ⟨_, hK', rfl⟩ (.deferred none)
    have hg4 := cell_putObj hf4 ⟨_, hK', rfl⟩ (.deferred none)
    refine leave_mark (v := .agg #[.int .i64 0, .bool false]) (.inl rfl) hK' ?_ ⟨by rw [HS.out]; rfl, below_putObj i3 (by omega) _⟩
    simp [results, Try.results39, go_sem, hg3, hg4]
  case stop =>
    rintro D c pre W hD hpre ⟨rfl, ⟨p, x, rfl, g1, g2, g3, g4⟩, i2⟩ hK
    have hst : h.starved m = (x, !decide (h.fhi x > m.full)) := by simp only [House.starved]; rw [find_some hpre g1 g2]
    refine wpIn_wide.2 ?_
    go_wp2
    have hf3 := cell_putObj g3 ⟨_, hK, rfl⟩ (.deferred none)
    have hf4 := cell_putObj g4 ⟨_, hK, rfl⟩ (.deferred none)
    refine leave_mark (v := .agg #[.int .i64 ((x : Nat) : Int), .bool (!decide (h.fhi x > m.full))]) (.inl rfl) hK ?_ ⟨by rw [hst], below_putObj i2 (by omega) _⟩
    simp [results, Try.results39, go_sem, hf3, hf4]
end Go.Proofs.Ytckagcbjcpfjpaa
