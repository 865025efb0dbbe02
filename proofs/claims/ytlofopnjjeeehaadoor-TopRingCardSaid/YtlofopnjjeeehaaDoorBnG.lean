/- The scale's water: the least and the greatest one, or that there is none. The tank's water: the least and the greatest one. -/
import Derived.Test.YtlofopnjjeeehaaDoorBnE
import Derived.Test.YtlofopnjjeeehaaDoorBnF
import Derived.Shelf.Small.Bits
namespace Go.Proofs.YtlofopnjjeeehaaDoor.Bn
open Go.RowKit Go.Shelf
attribute [local go_sem] Oper.semAt_some
set_option maxHeartbeats 400000 in
theorem extremes_any (oa : Option Addr) (n cap : Nat) (s : Spn) (w : World) :
    Calls Tryd.prog 63 #[.slice oa n cap, s.val] w fun e w' => e = .returned (.func (.func 68) #[] #[.pointer (some ⟨w.heap.size, 0, none⟩), .pointer (some ⟨w.heap.size + 1, 0, none⟩)]) ∧ w' = (w.alloc (.cells #[.slice oa n cap] 33)).alloc (.cells #[.int .i64 s.lo, .int .i64 s.hi] 35) := by
  go_enter Tryd.func63, Tryd.ntmps63
  go_wp2
  go_ret
  exact ⟨rfl, rfl⟩
def Bnch.light (b : Bnch) (x : Ctch) : Int := x.fin.lo - x.beg.hi - 2 * b.off
def Bnch.heavy (b : Bnch) (x : Ctch) : Int := x.fin.hi - x.beg.lo + 2 * b.off
def extF (n : Nat) (t : Nat → Mark) (s : Spn) (i : Nat) : Frac := (extL n t s n).getD i ⟨1, 1⟩
def Bnch.thin (b : Bnch) (x : Ctch) : Frac := bestN Frac.lt (extF b.n b.t x.warm) (tabAt b.n b.t x.warm.lo) (extL b.n b.t x.warm b.n).length
def Bnch.thick (b : Bnch) (x : Ctch) : Frac := bestN (fun a b => Frac.lt b a) (extF b.n b.t x.warm) (tabAt b.n b.t x.warm.lo) (extL b.n b.t x.warm b.n).length
def Bnch.scaleW (b : Bnch) (x : Ctch) : Frac × Frac × Bool :=
  if b.light x ≤ 0 then (⟨0, 0⟩, ⟨0, 0⟩, false) else
    (⟨b.light x * (1000000 + b.buoy.lo) * (b.thick x).under, (b.thick x).top⟩, ⟨b.heavy x * (1000000 + b.buoy.hi) * (b.thin x).under, (b.thin x).top⟩, true)
/-- fractions, by their cells -/
def pairsOf (l : List Frac) : List Value := pairNews l.length (fun i => (l.getD i ⟨1, 1⟩).top) (fun i => (l.getD i ⟨1, 1⟩).under)
theorem pairsOf_snoc (l : List Frac) (x : Frac) : pairsOf (l ++ [x]) = pairsOf l ++ [.int .i64 x.top, .int .i64 x.under] := by
  unfold pairsOf
  rw [show (l ++ [x]).length = l.length + 1 by simp, pair_news_succ]
  congr 1
  · refine pair_news_congr fun i hi => ?_
    simp [List.getD_eq_getElem?_getD, List.getElem?_append_left hi]
  · simp [List.getD_eq_getElem?_getD]
theorem owns_mono {w : World} {base base' e size n : Nat} {v : Value} {xs : List Value} (h : w.ownsRow base e size v n xs) (hb : base' ≤ base) : w.ownsRow base' e size v n xs := by
  obtain ⟨hl, h⟩ := h
  refine ⟨hl, h.imp id ?_⟩
  rintro ⟨g, cap, cur, h0, h1, h2⟩
  exact ⟨g, cap, cur, h0, Nat.le_trans hb h1, h2⟩
theorem But.grown' {g base : Nat} {w W W' : World} {v : Value} {e size n : Nat} {xs : List Value} (h : But g w W) (hown : W.ownsRow base e size v n xs) (hb : w.heap.size ≤ base) (hg : W.grownBy W' v.ownBlock) : But g w W' := h.grown (owns_mono hown hb) hg
/-- what has been put into the slice at N, since We -/
structure ExtI (N : Nat) (We : World) (pre : List Frac) (W : World) : Prop where
  row : ∃ v, Box N #[v] 134 W ∧ W.ownsRow (We.heap.size + 2) 83 2 v pre.length (pairsOf pre)
  but : But N We W
theorem ExtI.same {N : Nat} {We A B : World} {pre : List Frac} (h : ExtI N We pre A) (hs : SameC We.heap.size A B) : ExtI N We pre B := by
  obtain ⟨⟨v, hb, hl, ho⟩, hB⟩ := h
  refine ⟨⟨v, ⟨hs.block _ _ hb.row rfl⟩, hl, ho.imp id ?_⟩, hs.os.trans hB.os, hs.tape.trans hB.tape, hs.output.trans hB.output, Nat.le_trans hB.size hs.size, fun k hk hne => (hs.low k hk (Nat.lt_of_lt_of_le hk hB.size)).trans (hB.block k hk hne)⟩
  rintro ⟨g, cap, cur, h0, h1, h2, h3⟩
  exact ⟨g, cap, cur, h0, h1, hs.block _ _ h2 rfl, h3⟩
theorem ExtI.putObj {N : Nat} {We A : World} {pre : List Frac} {l : Nat} (h : ExtI N We pre A) (hl : ∃ o' : Obj, A.heap[l]? = some o' ∧ o'.isCells = false) (hn : We.heap.size ≤ l) (o : Obj) : ExtI N We pre (A.putObj l o) := h.same (.of_put hl hn o)
theorem Box.putObj {g l : Nat} {cs : Array Value} {t : TypeId} {A : World} (h : Box g cs t A) (hl : ∃ o' : Obj, A.heap[l]? = some o' ∧ o'.isCells = false) (o : Obj) : Box g cs t (A.putObj l o) := ⟨(SameC.of_put (n := 0) hl (Nat.zero_le _) o).block _ _ h.row rfl⟩
def scAct (b : Bnch) (x : Ctch) (oa : Option Addr) (cap B N : Nat) (x9 : Frac) (Bx : Nat) : Act := { tmps := List.toArray ((b.val oa cap : Value) :: x.val :: .pointer (some ⟨B, 0, none⟩) :: .pointer (some ⟨B + 1, 0, none⟩) :: .pointer (some ⟨B + 1 + 1, 0, none⟩) :: .pointer (some ⟨B + 1 + 1 + 1, 0, none⟩) :: .bool false :: .int .i64 (b.light x) :: .int .i64 (b.heavy x) :: .pointer (some ⟨N, 0, none⟩) :: .pointer (some ⟨Bx, 0, none⟩) :: undef :: undef :: undef :: .pointer (some ⟨B + 1, 2, none⟩) :: .pointer (some ⟨B + 1, 2, none⟩) :: .int .i64 x.fin.lo :: .pointer (some ⟨B + 1, 0, none⟩) :: .pointer (some ⟨B + 1, 1, none⟩) :: .int .i64 x.beg.hi :: .int .i64 (x.fin.lo - x.beg.hi) :: .pointer (some ⟨B, 0, none⟩) :: .pointer (some ⟨B, 2, none⟩) :: .int .i64 b.off :: .int .i64 (2 * b.off) :: .int .i64 (b.light x) :: .pointer (some ⟨B + 1, 2, none⟩) :: .pointer (some ⟨B + 1, 3, none⟩) :: .int .i64 x.fin.hi :: .pointer (some ⟨B + 1, 0, none⟩) :: .pointer (some ⟨B + 1, 0, none⟩) :: .int .i64 x.beg.lo :: .int .i64 (x.fin.hi - x.beg.lo) :: .pointer (some ⟨B, 0, none⟩) :: .pointer (some ⟨B, 2, none⟩) :: .int .i64 b.off :: .int .i64 (2 * b.off) :: .int .i64 (b.heavy x) :: .int .i64 (b.light x) :: .bool false :: undef :: undef :: .pointer (some ⟨B, 0, none⟩) :: .pointer (some ⟨B, 1, none⟩) :: .slice oa b.n cap :: .pointer (some ⟨B + 1, 4, none⟩) :: .agg #[.int .i64 x.warm.lo, .int .i64 x.warm.hi] :: .func (.func 68) #[] #[.pointer (some ⟨N + 1, 0, none⟩), .pointer (some ⟨N + 1 + 1, 0, none⟩)] :: x9.val :: undef :: undef :: undef :: undef :: undef :: undef :: undef :: undef :: undef :: undef :: undef :: undef :: undef :: undef :: undef :: undef :: undef :: undef :: undef :: undef :: undef :: undef :: undef :: undef :: undef :: undef :: undef :: undef :: undef :: undef :: []), defers := [] }
theorem at_dense {n : Nat} {t : Nat → Mark} {x : Int} (h : Tab n t) (h0 : (t 0).at_ ≤ x) (h1 : x ≤ (t (n - 1)).at_) : Dense (tabAt n t x) := by
  obtain ⟨i1, i2, i3, i4⟩ := tabI_spec h.two h1
  unfold tabAt
  generalize tabI n t x = i at *
  have d1 := at_step h i1 i2 (fun j hj hm => by have := i3 j hj hm; omega) h0
  have v1 := h.v0 (i - 1) (by omega)
  have v2 := h.v1 (i - 1) (by omega)
  have v3 := h.v0 i i2
  have v4 := h.v1 i i2
  have d2 := h.at1 i i2
  have d3 := h.at0 (i - 1) (by omega)
  obtain ⟨u, hu⟩ : ∃ u, u = (t i).at_ - (t (i - 1)).at_ := ⟨_, rfl⟩
  obtain ⟨d, hd⟩ : ∃ d, d = x - (t (i - 1)).at_ := ⟨_, rfl⟩
  have e : (t (i - 1)).value * u + ((t i).value - (t (i - 1)).value) * d = (t (i - 1)).value * (u - d) + (t i).value * d := by
    rw [Int.mul_sub, Int.sub_mul]; omega
  have p1 : 1 * (u - d) ≤ (t (i - 1)).value * (u - d) := Int.mul_le_mul_of_nonneg_right v1 (by omega)
  have p2 : (t (i - 1)).value * (u - d) ≤ 10000000 * (u - d) := Int.mul_le_mul_of_nonneg_right v2 (by omega)
  have p3 : 1 * d ≤ (t i).value * d := Int.mul_le_mul_of_nonneg_right v3 (by omega)
  have p4 : (t i).value * d ≤ 10000000 * d := Int.mul_le_mul_of_nonneg_right v4 (by omega)
  refine ⟨?_, ?_, ?_, ?_⟩ <;> simp only [atF, ← hu, ← hd] <;> omega
theorem ext_dense {n : Nat} {t : Nat → Mark} {s : Spn} (h : Tab n t) (h0 : (t 0).at_ ≤ s.lo) (h1 : s.lo ≤ s.hi) (h2 : s.hi ≤ (t (n - 1)).at_) : ∀ i, i < (extL n t s n).length → Dense (extF n t s i) := fun i hi => by
  have key : ∀ f ∈ extL n t s n, Dense f := fun f hf => by
    rcases List.mem_cons.1 hf with rfl | hf
    · exact at_dense h h0 (by omega)
    · rcases List.mem_cons.1 hf with rfl | hf
      · exact at_dense h (by omega) h2
      · obtain ⟨k, hk, rfl⟩ := List.mem_map.1 hf
        have hk := List.mem_range.1 (List.mem_filter.1 hk).1
        have v1 := h.v0 k hk
        have v2 := h.v1 k hk
        exact ⟨by show (0 : Int) < 1; omega, by show (1 : Int) ≤ 10000; omega, by show (1 : Int) ≤ (t k).value; omega, by show (t k).value ≤ 10000000 * 1; omega⟩
  unfold extF
  rw [List.getD_eq_getElem?_getD, List.getElem?_eq_getElem hi]
  exact key _ (List.getElem_mem hi)
theorem extF_zero (n : Nat) (t : Nat → Mark) (s : Spn) : extF n t s 0 = tabAt n t s.lo := rfl
theorem below_putObj {B : Nat} {A W : World} (h : Below B A W) {l : Nat} (hl : B ≤ l) (o : Obj) : Below B A (W.putObj l o) :=
  ⟨h.os, h.tape, h.output, by simpa using h.size, fun k hk => (World.putObj_heap_other (by omega)).trans (h.block k hk)⟩
/-- the end of a function that has ranged over a function and writes two results -/
theorem end4 {W : World} {p q D : Nat} {ft : TypeId} {x0 x1 y0 y1 : Value} (hp : Box p #[x0, x1] ft W) (hq : Box q #[y0, y1] ft W) (hne : q ≠ p) (hK : W.heap[D]? = some (.deferred (some []))) (hDp : D ≠ p) (hDq : D ≠ q) (a b c d : Value) :
    ((((W.setCell ⟨p, 0, none⟩ a).setCell ⟨p, 1, none⟩ b).setCell ⟨q, 0, none⟩ c).setCell ⟨q, 1, none⟩ d).heap[D]? = some (.deferred (some [])) ∧
      (((((W.setCell ⟨p, 0, none⟩ a).setCell ⟨p, 1, none⟩ b).setCell ⟨q, 0, none⟩ c).setCell ⟨q, 1, none⟩ d).putObj D (.deferred none)).cell? ⟨p, 0, none⟩ = some a ∧
      (((((W.setCell ⟨p, 0, none⟩ a).setCell ⟨p, 1, none⟩ b).setCell ⟨q, 0, none⟩ c).setCell ⟨q, 1, none⟩ d).putObj D (.deferred none)).cell? ⟨p, 1, none⟩ = some b ∧
      (((((W.setCell ⟨p, 0, none⟩ a).setCell ⟨p, 1, none⟩ b).setCell ⟨q, 0, none⟩ c).setCell ⟨q, 1, none⟩ d).putObj D (.deferred none)).cell? ⟨q, 0, none⟩ = some c ∧
      (((((W.setCell ⟨p, 0, none⟩ a).setCell ⟨p, 1, none⟩ b).setCell ⟨q, 0, none⟩ c).setCell ⟨q, 1, none⟩ d).putObj D (.deferred none)).cell? ⟨q, 1, none⟩ = some d := by
  have e : ((((W.setCell ⟨p, 0, none⟩ a).setCell ⟨p, 1, none⟩ b).setCell ⟨q, 0, none⟩ c).setCell ⟨q, 1, none⟩ d).heap[D]? = some (.deferred (some [])) := by
    rw [Below.heap_setCell _ _ _ _ hDq, Below.heap_setCell _ _ _ _ hDq, Below.heap_setCell _ _ _ _ hDp, Below.heap_setCell _ _ _ _ hDp]; exact hK
  have h1 : Box p #[a, b] ft ((((W.setCell ⟨p, 0, none⟩ a).setCell ⟨p, 1, none⟩ b).setCell ⟨q, 0, none⟩ c).setCell ⟨q, 1, none⟩ d) := ((hp.set2 a b).other (Ne.symm hne) 0 c).other (Ne.symm hne) 1 d
  have h2 : Box q #[c, d] ft ((((W.setCell ⟨p, 0, none⟩ a).setCell ⟨p, 1, none⟩ b).setCell ⟨q, 0, none⟩ c).setCell ⟨q, 1, none⟩ d) := ((hq.other hne 0 a).other hne 1 b).set2 c d
  have h3 := h1.putObj ⟨_, e, rfl⟩ (.deferred none)
  have h4 := h2.putObj ⟨_, e, rfl⟩ (.deferred none)
  exact ⟨e, h3.cell 0 rfl, h3.cell 1 rfl, h4.cell 0 rfl, h4.cell 1 rfl⟩
theorem borne_tu (g y t u : Int) (w : World) (hy : 0 ≤ y ∧ y ≤ 10000) (h1 : -1000000000000000000 ≤ g * (1000000 + y) ∧ g * (1000000 + y) ≤ 1000000000000000000) (h2 : -4000000000000000000 ≤ g * (1000000 + y) * u ∧ g * (1000000 + y) * u ≤ 4000000000000000000) :
    Calls Tryd.prog 67 #[.int .i64 g, .int .i64 y, .agg #[.int .i64 t, .int .i64 u]] w fun e w' => e = .returned (.agg #[.int .i64 (g * (1000000 + y) * u), .int .i64 t]) ∧ Below w.heap.size w w' := borne_any g y ⟨t, u⟩ w hy h1 h2
/-- nothing old has changed but two blocks -/
structure Two (p q : Nat) (w w' : World) : Prop where
  size : w.heap.size ≤ w'.heap.size
  block : ∀ k, k < w.heap.size → k ≠ p → k ≠ q → w'.heap[k]? = w.heap[k]?
theorem Two.refl (p q : Nat) (w : World) : Two p q w w := ⟨Nat.le_refl _, fun _ _ _ _ => rfl⟩
theorem Two.drew {p q : Nat} {w w' : World} (h : Two p q w w') : Two p q w w'.drew := ⟨h.size, h.block⟩
theorem Two.setP {p q i : Nat} {v : Value} {w w' : World} (h : Two p q w w') : Two p q w (w'.setCell ⟨p, i, none⟩ v) := ⟨by simpa using h.size, fun k hk hp hq => (Below.heap_setCell w' ⟨p, i, none⟩ v k hp).trans (h.block k hk hp hq)⟩
theorem Two.setQ {p q i : Nat} {v : Value} {w w' : World} (h : Two p q w w') : Two p q w (w'.setCell ⟨q, i, none⟩ v) := ⟨by simpa using h.size, fun k hk hp hq => (Below.heap_setCell w' ⟨q, i, none⟩ v k hq).trans (h.block k hk hp hq)⟩
theorem Two.below {p q : Nat} {w w' w'' : World} (h : Two p q w w') (hb : Below w'.heap.size w' w'') : Two p q w w'' := ⟨Nat.le_trans h.size hb.size, fun k hk hp hq => (hb.block k (Nat.lt_of_lt_of_le hk h.size)).trans (h.block k hk hp hq)⟩
theorem Two.cell {p q n i : Nat} {v : Value} {w w' : World} (h : Two p q w w') (hc : w.cell? ⟨n, i, none⟩ = some v) (hn : n < w.heap.size) (hp : n ≠ p) (hq : n ≠ q) : w'.cell? ⟨n, i, none⟩ = some v := (World.cell?_of_block (h.block n hn hp hq)).trans hc
set_option maxRecDepth 100000 in
set_option maxHeartbeats 4000000 in
theorem scaleWater_any (b : Bnch) (x : Ctch) (oa : Option Addr) (cap : Nat) (w : World) (hv : b.valid = true) (hx : b.scaleOk x = true) (hcap : b.n ≤ cap) (hT : MarksAt w oa b.n b.t) :
    Calls Tryd.prog 61 #[b.val oa cap, x.val] w fun e w' => e = .returned (.tuple #[(b.scaleW x).1.val, (b.scaleW x).2.1.val, .bool (b.scaleW x).2.2]) ∧ Below w.heap.size w w' := by
  have hV := valid_tab hv
  obtain ⟨-, hn1, hn2, ho, hbu, hai⟩ := valid_all hv
  simp only [Bnch.scaleOk, spanB, Bool.and_eq_true, decide_eq_true_eq] at hx
  obtain ⟨⟨hx1, hx2⟩, hx3⟩ := hx
  have HT := Lib.hid hT
  have HV := Lib.hid hV
  clear hT hV hv
  refine calls_of_wp_marks Tryd.func61 rfl ?_
  simp only [Tryd.ntmps61, List.size_toArray, List.length_cons, List.length_nil, Nat.reduceAdd, Nat.reduceSub, Array.replicate_succ, Array.replicate_zero, List.push_toArray, List.append_toArray, List.nil_append, List.cons_append]
  go_wp2_with fail
  have HB := Lib.hid (four_bench 104 83 b oa cap x w)
  have HC := Lib.hid (four_catch 104 83 b oa cap x w)
  have HL := Lib.hid (four_low 104 83 b oa cap x w)
  have HH := Lib.hid (four_high 104 83 b oa cap x w)
  have hbw := four_below 104 83 b oa cap x w
  obtain ⟨W, hW⟩ : ∃ X, X = four 104 83 b oa cap x w := ⟨_, rfl⟩
  rw [← hW] at HB HC HL HH hbw
  unfold four two at hW
  rw [← hW]
  clear hW
  obtain ⟨b0, b1, b2, b3, b4, b5, b6, b7⟩ := HB.out.cells
  obtain ⟨c0, c1, c2, c3, c4, c5, c6⟩ := HC.out.cells
  have l0 := HL.out.cell 0 rfl
  have l1 := HL.out.cell 1 rfl
  have k0 := HH.out.cell 0 rfl
  have k1 := HH.out.cell 1 rfl
  have l2 := HL.out.frozen 0
  have l3 := HL.out.frozen 1
  have k2 := HH.out.frozen 0
  have k3 := HH.out.frozen 1
  have LI : b.light x = x.fin.lo - x.beg.hi - 2 * b.off := rfl
  have HE : b.heavy x = x.fin.hi - x.beg.lo + 2 * b.off := rfl
  have LI2 := Lib.hid LI
  have HE2 := Lib.hid HE
  clear LI HE
  go_big_quiet (fail)
  rw [← LI2.out, ← HE2.out]
  by_cases hli : b.light x ≤ 0
  · have HLI := Lib.hid hli
    go_wp2_with fail
    go_region
    all_goals
      go_wp2_with fail
      first
        | (have pq := put4 (HL.out.drewN (nq + 1)) (HH.out.drewN (nq + 1)) (by omega) (.int .i64 0) (.int .i64 0) (.int .i64 0) (.int .i64 0)
           refine leave_plain (v := .tuple #[.agg #[.int .i64 0, .int .i64 0], .agg #[.int .i64 0, .int .i64 0], .bool false]) (.inl rfl) (by simp [results, Tryd.results61, go_sem, pq.1, pq.2.1, pq.2.2.1, pq.2.2.2]) ⟨by simp [Bnch.scaleW, HLI.out], (by repeat' (first | exact Below.refl _ _ | assumption | apply below_drewN | apply Below.drew | (refine Below.alloc ?_ ?_ _) | (refine Below.setCell ?_ ?_ _) | (simp; done) | (simp; omega) | omega))⟩)
        | (have pq := put4 (HH.out.drewN (nq + 1)) (HL.out.drewN (nq + 1)) (by omega) (.int .i64 0) (.int .i64 0) (.int .i64 0) (.int .i64 0)
           refine leave_plain (v := .tuple #[.agg #[.int .i64 0, .int .i64 0], .agg #[.int .i64 0, .int .i64 0], .bool false]) (.inl rfl) (by simp [results, Tryd.results61, go_sem, pq.1, pq.2.1, pq.2.2.1, pq.2.2.2]) ⟨by simp [Bnch.scaleW, HLI.out], (by repeat' (first | exact Below.refl _ _ | assumption | apply below_drewN | apply Below.drew | (refine Below.alloc ?_ ?_ _) | (refine Below.setCell ?_ ?_ _) | (simp; done) | (simp; omega) | omega))⟩)
  · have HLI := Lib.hid hli
    have HB1 := Lib.hid (HB.out.drewN nq)
    have HC1 := Lib.hid (HC.out.drewN nq)
    have HL1 := Lib.hid (HL.out.drewN nq)
    have HH1 := Lib.hid (HH.out.drewN nq)
    have hbw1 := below_drewN hbw nq
    obtain ⟨W1, hW1⟩ : ∃ X, X = W.drewN nq := ⟨_, rfl⟩
    rw [← hW1] at HB1 HC1 HL1 HH1 hbw1 ⊢
    clear hW1 b0 b1 b2 b3 b4 b5 b6 b7 c0 c1 c2 c3 c4 c5 c6 l0 l1 l2 l3 k0 k1 k2 k3 HB HC HL HH hbw
    obtain ⟨-, b1, -, -, -, -, -, b7⟩ := BB.cells (b := b) HB1.out
    obtain ⟨-, -, -, -, c4, c5, c6⟩ := CB.cells (x := x) HC1.out
    have q2 : ¬ w.heap.size = W1.heap.size := by omega
    have q3 : ¬ w.heap.size + 1 = W1.heap.size := by omega
    go_wp2_with fail
    refine (extremes_any oa b.n cap x.warm _).mono ?_
    rintro e We ⟨rfl, hWe⟩
    have hsz : (W1.alloc (.cells #[.slice none 0 0] 134)).heap.size = W1.heap.size + 1 := by simp
    rw [hsz]
    have hbe : Below W1.heap.size W1 We := by rw [hWe]; exact (by repeat' (first | exact Below.refl _ _ | assumption | apply below_drewN | apply Below.drew | (refine Below.alloc ?_ ?_ _) | (refine Below.setCell ?_ ?_ _) | (simp; done) | (simp; omega) | omega))
    have AB : Box W1.heap.size #[.slice none 0 0] 134 We := by rw [hWe]; exact ((Box.new _ 134 W1 rfl).old _).old _
    have SB : Box (W1.heap.size + 1) #[.slice oa b.n cap] 33 We := by rw [hWe]; exact (Box.new _ 33 _ hsz.symm).old _
    have PB : Box (W1.heap.size + 1 + 1) #[.int .i64 x.warm.lo, .int .i64 x.warm.hi] 35 We := by rw [hWe]; exact Box.new _ 35 _ (by simp)
    have hwz : We.heap.size = W1.heap.size + 3 := by rw [hWe]; simp
    have HB2 := Lib.hid (HB1.out.below hbe)
    have HC2 := Lib.hid (HC1.out.below hbe)
    have HL2 := Lib.hid (HL1.out.below hbe)
    have HH2 := Lib.hid (HH1.out.below hbe)
    have hbw2 := hbw1.trans (hbe.mono hbw1.size)
    have hsw1 := hbw1.size
    have b8 := HH1.out.lt
    clear hWe hsz HB1 HC1 HL1 HH1 b1 c4 c5 c6 hbe q2 q3
    obtain ⟨N, hN⟩ : ∃ N, N = W1.heap.size := ⟨_, rfl⟩
    rw [← hN] at AB SB PB hwz hsw1 b7 b8 ⊢
    clear hN
    go_wp2_with fail
    obtain ⟨iR, hiR, hzR0, hzR1, hzR2⟩ := info_parts (P := Tryd.prog) (e := 83) (z := .agg #[.int .i64 0, .int .i64 0]) (size := 2) (bytes := 16) (by kernel_rfl)
    refine (wpIn_wide (n := 8)).1 ?_
    refine wpIn_rangeFunc_C (α := Frac) rfl (by omega) (gf := 68) (lb := #[.pointer (some ⟨N + 1, 0, none⟩), .pointer (some ⟨N + 1 + 1, 0, none⟩)]) rfl trivial (enters_of Tryd.func68 (by kernel_rfl) rfl)
      (ext_seq b.n b.t x.warm HV.out oa cap (N + 1) (N + 1 + 1) w We HT.out hcap hx3.1 hx3.2.1 hx3.2.2 hbw2 (by omega) (by omega) (SB.cell 0 rfl) (PB.cell 0 rfl) (PB.cell 1 rfl) (8 - 1) (by omega)) (Same.refl _ _) (fun k hk => by omega) (fun _ => rfl)
      (ExtI N We) (fun _ _ _ => False) (fun s A B h hs => h.same hs) (fun c s A B h hs => h) ⟨⟨_, AB, rfl, .inl ⟨rfl, rfl⟩⟩, But.refl _ _⟩
      (fun pre x9 a' W => ∃ Bx, We.heap.size + 1 ≤ Bx ∧ ExtI N We pre W ∧ Box Bx #[.int .i64 x9.top, .int .i64 x9.under] 83 W ∧ a' = scAct b x oa cap w.heap.size N x9 Bx)
      (fun pre x9 a' A l o hl ho ⟨Bx, hB, h1, h2, h3⟩ => ⟨Bx, hB, h1.putObj ho hl _, h2.putObj ho _, h3⟩)
      ?assign ?body ?done ?stop
    case stop =>
      intro D c pre W hD hpre h hK
      exact h.elim
    case assign =>
      intro l pre x9 W K hl hlW hi hlen hK
      have HK := Lib.hid hK
      clear hK
      gi_wp2
      exact HK.out _ _ ((Same.refl _ _).alloc _) ⟨W.heap.size, by omega, hi.same (.of_below (below_alloc1 _ _)), Box.new _ _ _ rfl, rfl⟩
    case body =>
      rintro l pre x9 a' W hl ⟨r, hr⟩ ⟨Bx, hB, hI, hX, rfl⟩ hlen
      unfold scAct
      obtain ⟨⟨v, hv, hown⟩, hbut⟩ := hI
      have v0 := hv.cell 0 rfl
      have v1 := hv.frozen 0
      have y0 := hX.cell 0 rfl
      have y1 := hX.cell 1 rfl
      have hvl := hv.lt
      have hxl := hX.lt
      have hsW := hbut.size
      have hne : ¬ N = W.heap.size := by omega
      have hNr : some N ≠ v.ownBlock := fun e => by have := hown.lt N e.symm; omega
      have hal : ∀ k, k < W.heap.size → (W.alloc (.cells #[.int .i64 x9.top, .int .i64 x9.under] 83)).heap[k]? = W.heap[k]? := fun k hk => Below.heap_alloc _ _ _ hk
      gi_wp2_with (gi_at_builtin; refine wpListIn_append_own _ rfl (.tmp 49) (.tmp 51) 134 rfl (We.heap.size + 2) 83 iR _ 2 16 Tryd.underlying134 hiR hzR0 hzR1 hzR2 rfl (by omega) v pre.length (pairsOf pre) rfl (hown.alloc _) ⟨W.heap.size, 0, none⟩ 1 1 [.int .i64 x9.top, .int .i64 x9.under] rfl rfl (fun j u hu => news_blk2 (e := 83) (heap_new rfl) hu) (by simp [Value.oneCell']) (by simp only [maxLen]; omega) (by omega) (by simp; omega) ?_; intro v' w' hown' hgrow _; obtain ⟨oS, cS, rfl, -⟩ := owns_form hown'; have hc9 : w'.cell? ⟨N, 0, none⟩ = some v := (cell_same ((hgrow.block N (by simp; omega) hNr).trans (hal N hvl))).trans v0; have hf9 : w'.frozen? ⟨N, 0, none⟩ = false := (World.frozen?_of_block (w := W) (a := ⟨N, 0, none⟩) ((hgrow.block N (by simp; omega) hNr).trans (hal N hvl))).trans v1)
      have hb2 : But N We w' := But.grown' ((hbut.alloc _)) (hown.alloc _) (by omega) hgrow
      have hs9 := hgrow.size
      simp at hs9
      have hrow : ∀ k, v.ownBlock = some k → We.heap.size + 2 ≤ k := fun k e => (hown.lt k e).1
      have hsame : Same (fun b => (b < w.heap.size ∨ b = N + 1 ∨ b = N + 1 + 1) ∨ b = We.heap.size ∨ b = We.heap.size + 1) W w' := ((Same.refl _ W).alloc _).trans (Same.of_grownBy hgrow (fun k e hp => by have := hrow k e; omega))
      have hBN : Box N #[v] 134 w' := ⟨((hgrow.block N (by simp; omega) hNr).trans (hal N hvl)).trans hv.row⟩
      have hne9 : ∀ k, (Value.slice oS (pre.length + 1) cS).ownBlock = some k → k ≠ N := fun k e => by have := hown'.lt k e; omega
      gi_wp2
      refine ⟨hsame.setCell (fun hp => by dsimp only at hp; omega) _, ⟨⟨.slice oS (pre.length + 1) cS, hBN.set 0 _, ?_⟩, hb2.setCell _ _⟩⟩
      rw [pairsOf_snoc, List.length_append]
      exact owns_set hown' hne9
    case done =>
      rintro D xs W2 hD rfl ⟨⟨v, hv, hown⟩, hbut⟩ hK
      have HLE := Lib.hid (extL_length b.n b.t x.warm b.n)
      obtain ⟨oS, cS, rfl, hpa, hbs⟩ := owns_pairs hown
      have HPA := Lib.hid hpa
      have HB3 := Lib.hid (hbut.box HB2.out (by omega))
      have HC3 := Lib.hid (hbut.box HC2.out (by omega))
      have HL3 := Lib.hid (hbut.box HL2.out (by omega))
      have HH3 := Lib.hid (hbut.box HH2.out (by omega))
      have hbw3 : Below w.heap.size w W2 := hbut.below (by omega) hbw2 (by omega)
      have hs3 := hbut.size
      clear hbut hpa hbw2 HB2 HC2 HL2 HH2 AB SB PB iR hiR hzR0 hzR1 hzR2
      have hdl : 0 < (extL b.n b.t x.warm b.n).length := by simp [extL]
      obtain ⟨bS, oF, rfl, hlt9, f0, f1⟩ := HPA.out 0 hdl
      simp only [Nat.zero_mul, Nat.add_zero] at f0 f1
      have f0 : W2.cell? ⟨bS, oF, none⟩ = some (.int .i64 (tabAt b.n b.t x.warm.lo).top) := f0
      have f1 : W2.cell? ⟨bS, oF + 1, none⟩ = some (.int .i64 (tabAt b.n b.t x.warm.lo).under) := f1
      have n0 : W2.cell? ⟨N, 0, none⟩ = some (.slice (some ⟨bS, oF, none⟩) (extL b.n b.t x.warm b.n).length cS) := hv.cell 0 rfl
      have hN9 := hv.lt
      have HD0 := Lib.hid (at_dense HV.out hx3.1 (Int.le_trans hx3.2.1 hx3.2.2))
      have HDA := Lib.hid (ext_dense HV.out hx3.1 hx3.2.1 hx3.2.2)
      have HFA : Hid (FracsAt W2 (some ⟨bS, oF, none⟩) (extL b.n b.t x.warm b.n).length (extF b.n b.t x.warm)) := Lib.hid HPA.out
      have hle := HLE.out
      clear HPA hv hown hbs
      go_wp2_with fail
      go_cut [11] from 53 to 57 (fun s11 wx => Below W2.heap.size W2 wx ∧ ∃ g, W2.heap.size ≤ g ∧ s11 = .pointer (some ⟨g, 0, none⟩) ∧ Box g #[.int .i64 (b.thin x).top, .int .i64 (b.thin x).under] 83 wx)
      case first =>
        go_region_held3 (fun w' => w'.cell? ⟨N, 0, none⟩ = some (.slice (some ⟨bS, oF, none⟩) (extL b.n b.t x.warm b.n).length cS) ∧ w'.cell? ⟨bS, oF, none⟩ = some (.int .i64 (tabAt b.n b.t x.warm.lo).top) ∧ w'.cell? ⟨bS, oF + 1, none⟩ = some (.int .i64 (tabAt b.n b.t x.warm.lo).under)) ((refine ⟨(Below.cell (p := ⟨N, 0, none⟩) (w := W2) ?_ hN9).trans n0, (Below.cell (p := ⟨bS, oF, none⟩) (w := W2) ?_ hlt9).trans f0, (Below.cell (p := ⟨bS, oF + 1, none⟩) (w := W2) ?_ hlt9).trans f1⟩ <;> exact (by repeat' (first | assumption | exact Below.refl _ _ | apply Below.drew | (refine Below.setCell ?_ (by dsimp only; omega) _) | (refine Below.alloc ?_ (by first | omega | (simp; done) | (simp; omega)) _))))) (first | ((go_at_call 64; refine (bestThin_any (tabAt b.n b.t x.warm.lo) (some ⟨bS, oF, none⟩) (extL b.n b.t x.warm b.n).length cS (extF b.n b.t x.warm) _ (by omega) (FracsAt.mono HFA.out (by repeat' (first | assumption | exact Below.refl _ _ | apply Below.drew | (refine Below.alloc ?_ (by first | omega | (simp; done) | (simp; omega)) _)))) HD0.out HDA.out).mono ?_; rintro e w9 ⟨rfl, hb9⟩; have hbq : Below W2.heap.size W2 w9 := Below.trans (by repeat' (first | exact Below.refl _ _ | apply Below.drew | (refine Below.alloc ?_ (by first | omega | (simp; done) | (simp; omega)) _))) (hb9.mono (by first | omega | (simp; done) | (simp; omega))); have hsq := hbq.size; have z0 := hb9.cell (p := ⟨W2.heap.size, 0, none⟩); have z1 := hb9.cell (p := ⟨W2.heap.size, 1, none⟩); have z2 := hb9.frozen (p := ⟨W2.heap.size, 0, none⟩); have z3 := hb9.frozen (p := ⟨W2.heap.size, 1, none⟩); (try simp [go_sem] at z0); (try simp [go_sem] at z1); (try simp [go_sem] at z2); (try simp [go_sem] at z3))))
        all_goals
          go_wp2_with fail
          go_meet
          first
            | exact ⟨(hbq.setCell (by dsimp only; omega) _).setCell (by dsimp only; omega) _, _, Nat.le_refl _, rfl, ((Box.new _ 83 W2 rfl).drew.below hb9).set2 _ _⟩
            | exact ⟨hbq.alloc hsq _, _, hsq, rfl, Box.new _ 83 w9 rfl⟩
      case rest =>
        obtain ⟨hbx, gA, hgA, rfl, hXA⟩ := hcut
        have n3 := (hbx.cell (p := ⟨N, 0, none⟩) hN9).trans n0
        have f3 := (hbx.cell (p := ⟨bS, oF, none⟩) hlt9).trans f0
        have f4 := (hbx.cell (p := ⟨bS, oF + 1, none⟩) hlt9).trans f1
        have hs4 := hbx.size
        have hN3 : N < wc.heap.size := by omega
        have hlt3 : bS < wc.heap.size := by omega
        have HFA3 := Lib.hid (FracsAt.mono HFA.out hbx)
        have HXA := Lib.hid hXA
        have HB4 := Lib.hid (HB3.out.below hbx)
        have HC4 := Lib.hid (HC3.out.below hbx)
        have HL4 := Lib.hid (HL3.out.below hbx)
        have HH4 := Lib.hid (HH3.out.below hbx)
        have hK4 := (hbx.block D (Array.getElem?_eq_some_iff.1 hK).1).trans hK
        have hbw4 := hbw3.trans (hbx.mono hbw3.size)
        clear hbx n0 f0 f1 hXA HFA HB3 HC3 HL3 HH3 hK hbw3
        obtain ⟨W3, hW3⟩ : ∃ X, X = wc := ⟨_, rfl⟩
        rw [← hW3] at n3 f3 f4 hs4 hN3 hlt3 HFA3 HXA HB4 HC4 HL4 HH4 hK4 hbw4 ⊢
        clear hW3
        go_wp2_with fail
        go_cut [12] from 58 to 62 (fun s12 wx => Below W3.heap.size W3 wx ∧ ∃ g, W3.heap.size ≤ g ∧ s12 = .pointer (some ⟨g, 0, none⟩) ∧ Box g #[.int .i64 (b.thick x).top, .int .i64 (b.thick x).under] 83 wx)
        case first =>
          go_region_held3 (fun w' => w'.cell? ⟨N, 0, none⟩ = some (.slice (some ⟨bS, oF, none⟩) (extL b.n b.t x.warm b.n).length cS) ∧ w'.cell? ⟨bS, oF, none⟩ = some (.int .i64 (tabAt b.n b.t x.warm.lo).top) ∧ w'.cell? ⟨bS, oF + 1, none⟩ = some (.int .i64 (tabAt b.n b.t x.warm.lo).under)) ((refine ⟨(Below.cell (p := ⟨N, 0, none⟩) (w := W3) ?_ hN3).trans n3, (Below.cell (p := ⟨bS, oF, none⟩) (w := W3) ?_ hlt3).trans f3, (Below.cell (p := ⟨bS, oF + 1, none⟩) (w := W3) ?_ hlt3).trans f4⟩ <;> exact (by repeat' (first | assumption | exact Below.refl _ _ | apply Below.drew | (refine Below.setCell ?_ (by dsimp only; omega) _) | (refine Below.alloc ?_ (by first | omega | (simp; done) | (simp; omega)) _))))) (first | ((go_at_call 64; refine (bestThick_any (tabAt b.n b.t x.warm.lo) (some ⟨bS, oF, none⟩) (extL b.n b.t x.warm b.n).length cS (extF b.n b.t x.warm) _ (by omega) (FracsAt.mono HFA3.out (by repeat' (first | assumption | exact Below.refl _ _ | apply Below.drew | (refine Below.alloc ?_ (by first | omega | (simp; done) | (simp; omega)) _)))) HD0.out HDA.out).mono ?_; rintro e w9 ⟨rfl, hb9⟩; have hbq : Below W3.heap.size W3 w9 := Below.trans (by repeat' (first | exact Below.refl _ _ | apply Below.drew | (refine Below.alloc ?_ (by first | omega | (simp; done) | (simp; omega)) _))) (hb9.mono (by first | omega | (simp; done) | (simp; omega))); have hsq := hbq.size; have z0 := hb9.cell (p := ⟨W3.heap.size, 0, none⟩); have z1 := hb9.cell (p := ⟨W3.heap.size, 1, none⟩); have z2 := hb9.frozen (p := ⟨W3.heap.size, 0, none⟩); have z3 := hb9.frozen (p := ⟨W3.heap.size, 1, none⟩); (try simp [go_sem] at z0); (try simp [go_sem] at z1); (try simp [go_sem] at z2); (try simp [go_sem] at z3))))
          all_goals
            go_wp2_with fail
            go_meet
            first
              | exact ⟨(hbq.setCell (by dsimp only; omega) _).setCell (by dsimp only; omega) _, _, Nat.le_refl _, rfl, ((Box.new _ 83 W3 rfl).drew.below hb9).set2 _ _⟩
              | exact ⟨hbq.alloc hsq _, _, hsq, rfl, Box.new _ 83 w9 rfl⟩
        case rest =>
          obtain ⟨hbx, gB, hgB, rfl, hXB⟩ := hcut
          have HXB := Lib.hid hXB
          have HA5 := Lib.hid (HXA.out.below hbx)
          have HB5 := Lib.hid (HB4.out.below hbx)
          have HC5 := Lib.hid (HC4.out.below hbx)
          have HL5 := Lib.hid (HL4.out.below hbx)
          have HH5 := Lib.hid (HH4.out.below hbx)
          have hK5 := (hbx.block D (Array.getElem?_eq_some_iff.1 hK4).1).trans hK4
          have hbw5 := hbw4.trans (hbx.mono hbw4.size)
          clear hbx n3 f3 f4 hXB HFA3 HB4 HC4 HL4 HH4 hK4 hbw4 HXA
          obtain ⟨W4, hW4⟩ : ∃ X, X = wc := ⟨_, rfl⟩
          rw [← hW4] at HXB HA5 HB5 HC5 HL5 HH5 hK5 hbw5 ⊢
          clear hW4
          go_wp2_with fail
          obtain ⟨-, -, -, b3, b4, -, -, b7⟩ := BB.cells (b := b) HB5.out
          have a0 := HA5.out.cell 0 rfl
          have a1 := HA5.out.cell 1 rfl
          have d0 := HXB.out.cell 0 rfl
          have d1 := HXB.out.cell 1 rfl
          have l0 := HL5.out.cell 0 rfl
          have l1 := HL5.out.cell 1 rfl
          have k0 := HH5.out.cell 0 rfl
          have k1 := HH5.out.cell 1 rfl
          have l2 := HL5.out.frozen 0
          have l3 := HL5.out.frozen 1
          have k2 := HH5.out.frozen 0
          have k3 := HH5.out.frozen 1
          have ls := HL5.out.lt
          have ks := HH5.out.lt
          have la := HA5.out.lt
          have bs := HXB.out.lt
          have g1 : ¬ w.heap.size + 1 + 1 = gA := by omega
          have g2 : ¬ w.heap.size + 1 + 1 + 1 = gA := by omega
          have g3 : ¬ w.heap.size + 1 + 1 = gB := by omega
          have g4 : ¬ w.heap.size + 1 + 1 + 1 = gB := by omega
          have DT := bestN_dense (better := Frac.lt) (t := extF b.n b.t x.warm) HD0.out HDA.out
          have DK := bestN_dense (better := fun a b => Frac.lt b a) (t := extF b.n b.t x.warm) HD0.out HDA.out
          have DT : Dense (b.thin x) := DT
          have DK : Dense (b.thick x) := DK
          have e1 := LI2.out
          have e2 := HE2.out
          have m1 := mulb (a := b.light x) (b := 1000000 + b.buoy.lo) (x := 10000000) (y := 1010000) (by omega) (by omega) (by omega) (by omega)
          have m2 := mulb (a := b.light x * (1000000 + b.buoy.lo)) (b := (b.thick x).under) (x := 10000000 * 1010000) (y := 10000) m1.1 m1.2 (by have := DK.u0; omega) DK.u1
          have m3 := mulb (a := b.heavy x) (b := 1000000 + b.buoy.hi) (x := 30000000) (y := 1010000) (by omega) (by omega) (by omega) (by omega)
          have m4 := mulb (a := b.heavy x * (1000000 + b.buoy.hi)) (b := (b.thin x).under) (x := 30000000 * 1010000) (y := 10000) m3.1 m3.2 (by have := DT.u0; omega) DT.u1
          have q1 : -1000000000000000000 ≤ b.light x * (1000000 + b.buoy.lo) ∧ b.light x * (1000000 + b.buoy.lo) ≤ 1000000000000000000 := by omega
          have q2 : -4000000000000000000 ≤ b.light x * (1000000 + b.buoy.lo) * (b.thick x).under ∧ b.light x * (1000000 + b.buoy.lo) * (b.thick x).under ≤ 4000000000000000000 := by omega
          have q3 : -1000000000000000000 ≤ b.heavy x * (1000000 + b.buoy.hi) ∧ b.heavy x * (1000000 + b.buoy.hi) ≤ 1000000000000000000 := by omega
          have q4 : -4000000000000000000 ≤ b.heavy x * (1000000 + b.buoy.hi) * (b.thin x).under ∧ b.heavy x * (1000000 + b.buoy.hi) * (b.thin x).under ≤ 4000000000000000000 := by omega
          have Q1 := Lib.hid q1
          have Q2 := Lib.hid q2
          have Q3 := Lib.hid q3
          have Q4 := Lib.hid q4
          clear q1 q2 q3 q4 m1 m2 m3 m4 e1 e2 DT DK
          go_region_held3 (fun w' => w'.cell? ⟨w.heap.size, 3, none⟩ = some (.int .i64 b.buoy.lo) ∧ w'.cell? ⟨w.heap.size, 4, none⟩ = some (.int .i64 b.buoy.hi) ∧ w'.cell? ⟨gA, 0, none⟩ = some (.int .i64 (b.thin x).top) ∧ w'.cell? ⟨gA, 1, none⟩ = some (.int .i64 (b.thin x).under) ∧ w'.cell? ⟨gB, 0, none⟩ = some (.int .i64 (b.thick x).top) ∧ w'.cell? ⟨gB, 1, none⟩ = some (.int .i64 (b.thick x).under)) ((refine ⟨Two.cell (p := w.heap.size + 1 + 1) (q := w.heap.size + 1 + 1 + 1) (w := W4) ?_ b3 b7 (by omega) (by omega), Two.cell (p := w.heap.size + 1 + 1) (q := w.heap.size + 1 + 1 + 1) (w := W4) ?_ b4 b7 (by omega) (by omega), Two.cell (p := w.heap.size + 1 + 1) (q := w.heap.size + 1 + 1 + 1) (w := W4) ?_ a0 la (by omega) (by omega), Two.cell (p := w.heap.size + 1 + 1) (q := w.heap.size + 1 + 1 + 1) (w := W4) ?_ a1 la (by omega) (by omega), Two.cell (p := w.heap.size + 1 + 1) (q := w.heap.size + 1 + 1 + 1) (w := W4) ?_ d0 bs (by omega) (by omega), Two.cell (p := w.heap.size + 1 + 1) (q := w.heap.size + 1 + 1 + 1) (w := W4) ?_ d1 bs (by omega) (by omega)⟩ <;> (repeat' (first | assumption | exact Two.refl _ _ _ | apply Two.drew | apply Two.setP | apply Two.setQ)))) (first | ((go_at_call 67; refine (borne_tu _ _ _ _ _ (by omega) (by first | exact Q1.out | exact Q3.out) (by first | exact Q2.out | exact Q4.out)).mono ?_; rintro e w9 ⟨rfl, hb9⟩; have hbp : Below W4.heap.size W4 w9 := Below.trans (by repeat' (first | assumption | exact Below.refl _ _ | apply Below.drew)) (hb9.mono (by first | omega | (simp; done) | (simp; omega))); have hsp := hbp.size; have htp : Two (w.heap.size + 1 + 1) (w.heap.size + 1 + 1 + 1) W4 w9 := Two.below (Two.refl _ _ _) hbp; have y00 := (hbp.cell (p := ⟨w.heap.size + 1 + 1, 0, none⟩) ls).trans l0; have z00 := (hbp.frozen (p := ⟨w.heap.size + 1 + 1, 0, none⟩) ls).trans l2; have y01 := (hbp.cell (p := ⟨w.heap.size + 1 + 1, 1, none⟩) ls).trans l1; have z01 := (hbp.frozen (p := ⟨w.heap.size + 1 + 1, 1, none⟩) ls).trans l3; have y10 := (hbp.cell (p := ⟨w.heap.size + 1 + 1 + 1, 0, none⟩) ks).trans k0; have z10 := (hbp.frozen (p := ⟨w.heap.size + 1 + 1 + 1, 0, none⟩) ks).trans k2; have y11 := (hbp.cell (p := ⟨w.heap.size + 1 + 1 + 1, 1, none⟩) ks).trans k1; have z11 := (hbp.frozen (p := ⟨w.heap.size + 1 + 1 + 1, 1, none⟩) ks).trans k3)))
          all_goals
            go_wp2_with fail
            obtain ⟨E0, E1, E2, E3, E4⟩ := end4 (HL5.out.below hbp) (HH5.out.below hbp) (by omega) ((hbp.block D (Array.getElem?_eq_some_iff.1 hK5).1).trans hK5) (by omega) (by omega) (.int .i64 (b.light x * (1000000 + b.buoy.lo) * (b.thick x).under)) (.int .i64 (b.thick x).top) (.int .i64 (b.heavy x * (1000000 + b.buoy.hi) * (b.thin x).under)) (.int .i64 (b.thin x).top)
            refine leave_mark (v := .tuple #[.agg #[.int .i64 (b.light x * (1000000 + b.buoy.lo) * (b.thick x).under), .int .i64 (b.thick x).top], .agg #[.int .i64 (b.heavy x * (1000000 + b.buoy.hi) * (b.thin x).under), .int .i64 (b.thin x).top], .bool true]) (.inl rfl) E0 (by simp [results, Tryd.results61, go_sem, E1, E2, E3, E4]) ⟨?_, ?_⟩
            · have e9 : b.scaleW x = (⟨b.light x * (1000000 + b.buoy.lo) * (b.thick x).under, (b.thick x).top⟩, ⟨b.heavy x * (1000000 + b.buoy.hi) * (b.thin x).under, (b.thin x).top⟩, true) := by unfold Bnch.scaleW; rw [if_neg (by omega)]
              rw [e9]
            · exact below_putObj (((((hbw5.trans (hbp.mono hbw5.size)).setCell (by dsimp only; omega) _).setCell (by dsimp only; omega) _).setCell (by dsimp only; omega) _).setCell (by dsimp only; omega) _) (by omega) _
end Go.Proofs.YtlofopnjjeeehaaDoor.Bn
namespace Go.Proofs.YtlofopnjjeeehaaDoor.Bn
open Go.RowKit Go.Shelf
def Bnch.tankW (b : Bnch) (x : Ctch) : Frac × Frac × Bool :=
  ((tabAt b.n b.t x.fin.lo).minus (tabAt b.n b.t x.beg.hi) (2 * b.off), (tabAt b.n b.t x.fin.hi).minus (tabAt b.n b.t x.beg.lo) (-2 * b.off), true)
theorem minus_bd {a b : Frac} (ha : Dense a) (hb : Dense b) {n : Int} (hn : -20000000 ≤ n ∧ n ≤ 20000000) :
    (-1000000000000000000 ≤ a.top * b.under ∧ a.top * b.under ≤ 1000000000000000000) ∧ (-1000000000000000000 ≤ b.top * a.under ∧ b.top * a.under ≤ 1000000000000000000) ∧
    (-1000000000000000000 ≤ n * a.under ∧ n * a.under ≤ 1000000000000000000) ∧ (-1000000000000000000 ≤ n * a.under * b.under ∧ n * a.under * b.under ≤ 1000000000000000000) ∧ (-1000000000000000000 ≤ a.under * b.under ∧ a.under * b.under ≤ 1000000000000000000) := by
  have a1 := ha.u0
  have a2 := ha.u1
  have a3 := ha.t0
  have a4 := ha.t1
  have b1 := hb.u0
  have b2 := hb.u1
  have b3 := hb.t0
  have b4 := hb.t1
  have m1 := mulb (a := a.top) (b := b.under) (x := 100000000000) (y := 10000) (by omega) (by omega) (by omega) (by omega)
  have m2 := mulb (a := b.top) (b := a.under) (x := 100000000000) (y := 10000) (by omega) (by omega) (by omega) (by omega)
  have m3 := mulsb (a := n) (b := a.under) (x := 20000000) (y := 10000) (by omega) (by omega) (by omega) (by omega)
  have m4 := mulsb (a := n * a.under) (b := b.under) (x := 20000000 * 10000) (y := 10000) (by omega) (by omega) (by omega) (by omega)
  have m5 := mulb (a := a.under) (b := b.under) (x := 10000) (y := 10000) (by omega) (by omega) (by omega) (by omega)
  omega
set_option maxRecDepth 100000 in
set_option maxHeartbeats 4000000 in
theorem tankWater_any (b : Bnch) (x : Ctch) (oa : Option Addr) (cap : Nat) (w : World) (hv : b.valid = true) (hx : b.tankOk x = true) (hcap : b.n ≤ cap) (hT : MarksAt w oa b.n b.t) :
    Calls Tryd.prog 73 #[b.val oa cap, x.val] w fun e w' => e = .returned (.tuple #[(b.tankW x).1.val, (b.tankW x).2.1.val, .bool (b.tankW x).2.2]) ∧ Below w.heap.size w w' := by
  have hV := valid_tab hv
  obtain ⟨-, hn1, hn2, ho, hbu, hai⟩ := valid_all hv
  have hx : ((b.t 0).at_ ≤ x.beg.lo ∧ x.beg.lo ≤ x.beg.hi ∧ x.beg.hi ≤ (b.t (b.n - 1)).at_) ∧ ((b.t 0).at_ ≤ x.fin.lo ∧ x.fin.lo ≤ x.fin.hi ∧ x.fin.hi ≤ (b.t (b.n - 1)).at_) := by
    simp only [Bnch.tankOk, spanB, Bool.and_eq_true, decide_eq_true_eq] at hx
    exact hx
  obtain ⟨⟨p1, p2, p3⟩, p4, p5, p6⟩ := hx
  have p7 := Int.le_trans p1 p2
  have p8 := Int.le_trans p4 p5
  have p9 := Int.le_trans p2 p3
  have p10 := Int.le_trans p5 p6
  have M := Lib.hid (minus_bd (at_dense hV p4 p10) (at_dense hV p7 p3) (n := 2 * b.off) (by omega))
  have M2 := Lib.hid (minus_bd (at_dense hV p8 p6) (at_dense hV p1 p9) (n := -2 * b.off) (by omega))
  have HT := Lib.hid hT
  have HV := Lib.hid hV
  clear hT hV hv
  go_enter Tryd.func73, Tryd.ntmps73
  go_wp2_with fail
  have HB := Lib.hid (four_bench 105 83 b oa cap x w)
  have HC := Lib.hid (four_catch 105 83 b oa cap x w)
  have HL := Lib.hid (four_low 105 83 b oa cap x w)
  have HH := Lib.hid (four_high 105 83 b oa cap x w)
  have hbw := four_below 105 83 b oa cap x w
  obtain ⟨W, hW⟩ : ∃ X, X = four 105 83 b oa cap x w := ⟨_, rfl⟩
  rw [← hW] at HB HC HL HH hbw
  unfold four two at hW
  rw [← hW]
  clear hW
  obtain ⟨-, b1, b2, -, -, -, -, b7⟩ := BB.cells (b := b) HB.out
  obtain ⟨c0, c1, c2, c3, -, -, c6⟩ := CB.cells (x := x) HC.out
  have l0 := HL.out.cell 0 rfl
  have l1 := HL.out.cell 1 rfl
  have l2 := HL.out.frozen 0
  have l3 := HL.out.frozen 1
  have ll := HL.out.lt
  have hw1 : IntKind.i64.wrap (2 * b.off) = 2 * b.off := IntWalk.i64_in _ (by omega)
  have hw2 : IntKind.i64.wrap (-2 * b.off) = -2 * b.off := IntWalk.i64_in _ (by omega)
  go_cut [6] from 7 to 25 (fun s6 wx => s6 = .bool false ∧ Below w.heap.size w wx ∧ BB 105 b oa cap w.heap.size wx ∧ CB x (w.heap.size + 1) wx ∧ Box (w.heap.size + 1 + 1) #[.int .i64 (b.tankW x).1.top, .int .i64 (b.tankW x).1.under] 83 wx ∧ Box (w.heap.size + 1 + 1 + 1) #[.int .i64 0, .int .i64 0] 83 wx)
  case first =>
    go_region_held3 (fun w' => w'.cell? ⟨w.heap.size, 1, none⟩ = some (.slice oa b.n cap) ∧ w'.cell? ⟨w.heap.size, 2, none⟩ = some (.int .i64 b.off) ∧ w'.cell? ⟨w.heap.size + 1, 1, none⟩ = some (.int .i64 x.beg.hi) ∧ w'.cell? ⟨w.heap.size + 1, 2, none⟩ = some (.int .i64 x.fin.lo)) ((refine ⟨Two.cell (p := w.heap.size + 1 + 1) (q := w.heap.size + 1 + 1) (w := W) ?_ b1 b7 (by omega) (by omega), Two.cell (p := w.heap.size + 1 + 1) (q := w.heap.size + 1 + 1) (w := W) ?_ b2 b7 (by omega) (by omega), Two.cell (p := w.heap.size + 1 + 1) (q := w.heap.size + 1 + 1) (w := W) ?_ c1 c6 (by omega) (by omega), Two.cell (p := w.heap.size + 1 + 1) (q := w.heap.size + 1 + 1) (w := W) ?_ c2 c6 (by omega) (by omega)⟩ <;> (repeat' (first | assumption | exact Two.refl _ _ _ | apply Two.drew | apply Two.setP)))) (first | ((go_at_call 74; refine (minus_any _ _ _ _ (by exact M.out.1) (by exact M.out.2.1) (by exact M.out.2.2.1) (by exact M.out.2.2.2.1) (by exact M.out.2.2.2.2)).mono ?_; rintro e w9 ⟨rfl, hb9⟩; have hbp : Below W.heap.size W w9 := Below.trans (by repeat' (first | assumption | exact Below.refl _ _ | apply Below.drew)) (hb9.mono (by first | omega | (simp; done) | (simp; omega))); have hsp := hbp.size; have htp : Two (w.heap.size + 1 + 1) (w.heap.size + 1 + 1) W w9 := Two.below (Two.refl _ _ _) hbp; have y0 := (hbp.cell (p := ⟨w.heap.size + 1 + 1, 0, none⟩) ll).trans l0; have y1 := (hbp.cell (p := ⟨w.heap.size + 1 + 1, 1, none⟩) ll).trans l1; have z0 := (hbp.frozen (p := ⟨w.heap.size + 1 + 1, 0, none⟩) ll).trans l2; have z1 := (hbp.frozen (p := ⟨w.heap.size + 1 + 1, 1, none⟩) ll).trans l3)) | ((go_at_call 69; refine (at_any oa b.n cap b.t _ _ HV.out (HT.out.mono (hbw.trans (Below.mono (by repeat' (first | assumption | exact Below.refl _ _ | apply Below.drew)) hbw.size))) hcap (by assumption) (by assumption)).mono ?_; rintro e w9 ⟨rfl, hb9⟩; have hbp : Below W.heap.size W w9 := Below.trans (by repeat' (first | assumption | exact Below.refl _ _ | apply Below.drew)) (hb9.mono (by first | omega | (simp; done) | (simp; omega))); have hsp := hbp.size; have htp : Two (w.heap.size + 1 + 1) (w.heap.size + 1 + 1) W w9 := Two.below (Two.refl _ _ _) hbp)))
    all_goals
      go_wp2_with fail
      go_meet
      exact ⟨rfl, ((hbw.trans (hbp.mono hbw.size)).setCell (by dsimp only; omega) _).setCell (by dsimp only; omega) _, ((HB.out.below hbp).other (by omega) 0 _).other (by omega) 1 _, ((HC.out.below hbp).other (by omega) 0 _).other (by omega) 1 _, (HL.out.below hbp).set2 _ _, ((HH.out.below hbp).other (by omega) 0 _).other (by omega) 1 _⟩
  case rest =>
    obtain ⟨rfl, hbw2, hB2, hC2, hL2, hH2⟩ := hcut
    have HL2 := Lib.hid hL2
    have HH2 := Lib.hid hH2
    obtain ⟨-, b1, b2, -, -, -, -, b7⟩ := BB.cells (b := b) hB2
    obtain ⟨c0, c1, c2, c3, -, -, c6⟩ := CB.cells (x := x) hC2
    have k0 := HH2.out.cell 0 rfl
    have k1 := HH2.out.cell 1 rfl
    have k2 := HH2.out.frozen 0
    have k3 := HH2.out.frozen 1
    have lk := HH2.out.lt
    clear hL2 hH2 hB2 hC2 HB HC HL HH hbw
    obtain ⟨W2, hW2⟩ : ∃ X, X = wc := ⟨_, rfl⟩
    rw [← hW2] at HL2 HH2 hbw2 b1 b2 b7 c0 c1 c2 c3 c6 k0 k1 k2 k3 lk ⊢
    clear hW2
    go_wp2_with fail
    go_cut [6] from 26 to 44 (fun s6 wx => s6 = .bool false ∧ Below w.heap.size w wx ∧ Box (w.heap.size + 1 + 1) #[.int .i64 (b.tankW x).1.top, .int .i64 (b.tankW x).1.under] 83 wx ∧ Box (w.heap.size + 1 + 1 + 1) #[.int .i64 (b.tankW x).2.1.top, .int .i64 (b.tankW x).2.1.under] 83 wx)
    case first =>
      go_region_held3 (fun w' => w'.cell? ⟨w.heap.size, 1, none⟩ = some (.slice oa b.n cap) ∧ w'.cell? ⟨w.heap.size, 2, none⟩ = some (.int .i64 b.off) ∧ w'.cell? ⟨w.heap.size + 1, 0, none⟩ = some (.int .i64 x.beg.lo) ∧ w'.cell? ⟨w.heap.size + 1, 3, none⟩ = some (.int .i64 x.fin.hi)) ((refine ⟨Two.cell (p := w.heap.size + 1 + 1 + 1) (q := w.heap.size + 1 + 1 + 1) (w := W2) ?_ b1 b7 (by omega) (by omega), Two.cell (p := w.heap.size + 1 + 1 + 1) (q := w.heap.size + 1 + 1 + 1) (w := W2) ?_ b2 b7 (by omega) (by omega), Two.cell (p := w.heap.size + 1 + 1 + 1) (q := w.heap.size + 1 + 1 + 1) (w := W2) ?_ c0 c6 (by omega) (by omega), Two.cell (p := w.heap.size + 1 + 1 + 1) (q := w.heap.size + 1 + 1 + 1) (w := W2) ?_ c3 c6 (by omega) (by omega)⟩ <;> (repeat' (first | assumption | exact Two.refl _ _ _ | apply Two.drew | apply Two.setP)))) (first | ((go_at_call 74; refine (minus_any _ _ _ _ (by exact M2.out.1) (by exact M2.out.2.1) (by exact M2.out.2.2.1) (by exact M2.out.2.2.2.1) (by exact M2.out.2.2.2.2)).mono ?_; rintro e w9 ⟨rfl, hb9⟩; have hbp : Below W2.heap.size W2 w9 := Below.trans (by repeat' (first | assumption | exact Below.refl _ _ | apply Below.drew)) (hb9.mono (by first | omega | (simp; done) | (simp; omega))); have hsp := hbp.size; have htp : Two (w.heap.size + 1 + 1 + 1) (w.heap.size + 1 + 1 + 1) W2 w9 := Two.below (Two.refl _ _ _) hbp; have y0 := (hbp.cell (p := ⟨w.heap.size + 1 + 1 + 1, 0, none⟩) lk).trans k0; have y1 := (hbp.cell (p := ⟨w.heap.size + 1 + 1 + 1, 1, none⟩) lk).trans k1; have z0 := (hbp.frozen (p := ⟨w.heap.size + 1 + 1 + 1, 0, none⟩) lk).trans k2; have z1 := (hbp.frozen (p := ⟨w.heap.size + 1 + 1 + 1, 1, none⟩) lk).trans k3)) | ((go_at_call 69; refine (at_any oa b.n cap b.t _ _ HV.out (HT.out.mono (hbw2.trans (Below.mono (by repeat' (first | assumption | exact Below.refl _ _ | apply Below.drew)) hbw2.size))) hcap (by assumption) (by assumption)).mono ?_; rintro e w9 ⟨rfl, hb9⟩; have hbp : Below W2.heap.size W2 w9 := Below.trans (by repeat' (first | assumption | exact Below.refl _ _ | apply Below.drew)) (hb9.mono (by first | omega | (simp; done) | (simp; omega))); have hsp := hbp.size; have htp : Two (w.heap.size + 1 + 1 + 1) (w.heap.size + 1 + 1 + 1) W2 w9 := Two.below (Two.refl _ _ _) hbp)))
      all_goals
        go_wp2_with fail
        go_meet
        exact ⟨rfl, ((hbw2.trans (hbp.mono hbw2.size)).setCell (by dsimp only; omega) _).setCell (by dsimp only; omega) _, ((HL2.out.below hbp).other (by omega) 0 _).other (by omega) 1 _, (HH2.out.below hbp).set2 _ _⟩
    case rest =>
      obtain ⟨rfl, hbw3, hL3, hH3⟩ := hcut
      have HL3 := Lib.hid hL3
      have HH3 := Lib.hid hH3
      clear HL2 HH2 hbw2 b1 b2 b7 c0 c1 c2 c3 c6 k0 k1 k2 k3 lk hL3 hH3
      have l0 := HL3.out.cell 0 rfl
      have l1 := HL3.out.cell 1 rfl
      have l2 := HL3.out.frozen 0
      have l3 := HL3.out.frozen 1
      have k0 := HH3.out.cell 0 rfl
      have k1 := HH3.out.cell 1 rfl
      have k2 := HH3.out.frozen 0
      have k3 := HH3.out.frozen 1
      obtain ⟨W3, hW3⟩ : ∃ X, X = wc := ⟨_, rfl⟩
      rw [← hW3] at HL3 HH3 hbw3 l0 l1 l2 l3 k0 k1 k2 k3 ⊢
      clear hW3
      have e9 : b.tankW x = ((b.tankW x).1, (b.tankW x).2.1, true) := rfl
      have E9 := Lib.hid e9
      clear e9
      obtain ⟨f1, hf1⟩ : ∃ f, f = (b.tankW x).1 := ⟨_, rfl⟩
      obtain ⟨f2, hf2⟩ : ∃ f, f = (b.tankW x).2.1 := ⟨_, rfl⟩
      have F1 := Lib.hid hf1
      have F2 := Lib.hid hf2
      rw [← hf1] at HL3 l0 l1
      rw [← hf2] at HH3 k0 k1
      clear hf1 hf2
      go_wp2_with fail
      go_region
      all_goals
        go_wp2_with fail
        first
          | (have pq := put4 HL3.out HH3.out (by omega) (.int .i64 f1.top) (.int .i64 f1.under) (.int .i64 f2.top) (.int .i64 f2.under)
             refine bodyPost_ret (v := .tuple #[.agg #[.int .i64 f1.top, .int .i64 f1.under], .agg #[.int .i64 f2.top, .int .i64 f2.under], .bool true]) (by simp [results, Tryd.results73, go_sem, pq.1, pq.2.1, pq.2.2.1, pq.2.2.2]) rfl ⟨by rw [E9.out, F1.out, F2.out], (by repeat' (first | exact Below.refl _ _ | assumption | apply below_drewN | apply Below.drew | (refine Below.alloc ?_ ?_ _) | (refine Below.setCell ?_ ?_ _) | (simp; done) | (simp; omega) | omega))⟩)
          | (have pq := put4 HH3.out HL3.out (by omega) (.int .i64 f2.top) (.int .i64 f2.under) (.int .i64 f1.top) (.int .i64 f1.under)
             refine bodyPost_ret (v := .tuple #[.agg #[.int .i64 f1.top, .int .i64 f1.under], .agg #[.int .i64 f2.top, .int .i64 f2.under], .bool true]) (by simp [results, Tryd.results73, go_sem, pq.1, pq.2.1, pq.2.2.1, pq.2.2.2]) rfl ⟨by rw [E9.out, F1.out, F2.out], (by repeat' (first | exact Below.refl _ _ | assumption | apply below_drewN | apply Below.drew | (refine Below.alloc ?_ ?_ _) | (refine Below.setCell ?_ ?_ _) | (simp; done) | (simp; omega) | omega))⟩)
end Go.Proofs.YtlofopnjjeeehaaDoor.Bn
