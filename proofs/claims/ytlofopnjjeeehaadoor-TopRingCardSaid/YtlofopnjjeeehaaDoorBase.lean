/- Laws that name no program: spans, boxes, slices of the call's own, regions that draw their order. -/
import Derived.WalkKit
import Derived.Deep.Draws
import Derived.WalkLawsBesides
import Derived.Laws.AppendOwnNone
import Derived.RangeFuncRecord
import Derived.Deep.RegionHeld3
import Derived.Deep.RegionLaw
import Derived.Deep.DrawnRows
import Derived.Deep.MidRow
import Derived.BigQuiet
import Derived.OrdersHeld
namespace Go.Proofs.YtlofopnjjeeehaaDoor
open Go.RowKit
structure Spn where
  lo : Int
  hi : Int
  deriving DecidableEq
abbrev Spn.val (t : Spn) : Value := .agg #[.int .i64 t.lo, .int .i64 t.hi]
def SpnsAt (w : World) (oa : Option Addr) (n : Nat) (t : Nat → Spn) : Prop :=
  ∀ i, i < n → ∃ b off, oa = some ⟨b, off, none⟩ ∧ b < w.heap.size ∧ w.cell? ⟨b, off + i * 2, none⟩ = some (.int .i64 (t i).lo) ∧ w.cell? ⟨b, off + i * 2 + 1, none⟩ = some (.int .i64 (t i).hi)
theorem SpnsAt.mono {w w' : World} {oa : Option Addr} {n : Nat} {t : Nat → Spn} (h : SpnsAt w oa n t) (hb : Below w.heap.size w w') : SpnsAt w' oa n t := fun i hi => by
  obtain ⟨b, off, ha, hlt, h0, h1⟩ := h i hi
  exact ⟨b, off, ha, Nat.lt_of_lt_of_le hlt hb.size, (hb.cell (p := ⟨b, off + i * 2, none⟩) hlt).trans h0, (hb.cell (p := ⟨b, off + i * 2 + 1, none⟩) hlt).trans h1⟩
def anyB (n : Nat) (p : Nat → Bool) : Bool := (List.range n).any p
theorem anyB_iff {n : Nat} {p : Nat → Bool} : anyB n p = true ↔ ∃ i, i < n ∧ p i = true := by simp [anyB, List.any_eq_true]
def withinB (n low high : Int) : Bool := decide (low ≤ n ∧ n ≤ high)
def spanB (s : Spn) (low high : Int) : Bool := decide (low ≤ s.lo ∧ s.lo ≤ s.hi ∧ s.hi ≤ high)
theorem ret_bool {a b : Bool} (h : a = b) : Ending.returned (.bool a) = .returned (.bool b) := by rw [h]
theorem ret_int {k : IntKind} {a b : Int} (h : a = b) : Ending.returned (.int k a) = .returned (.int k b) := by rw [h]
theorem ret_two {a b c d : Int} (h : a = c) (h' : b = d) : Ending.returned (.agg #[.int .i64 a, .int .i64 b]) = .returned (.agg #[.int .i64 c, .int .i64 d]) := by rw [h, h']
/-- the first index from i on, of k ones, that does -/
def firstFrom (p : Nat → Bool) : Nat → Nat → Nat
  | 0, i => i
  | k + 1, i => if p i then i else firstFrom p k (i + 1)
theorem firstFrom_eq {p : Nat → Bool} : ∀ {k i m : Nat}, i ≤ m → m < i + k → (∀ j, i ≤ j → j < m → p j = false) → p m = true → firstFrom p k i = m
  | 0, i, m, h0, h1, _, _ => by omega
  | k + 1, i, m, h0, h1, h2, h3 => by
    unfold firstFrom
    by_cases h : i = m
    · subst h; rw [if_pos h3]
    · rw [if_neg (by rw [h2 i (Nat.le_refl _) (by omega)]; simp)]
      exact firstFrom_eq (by omega) (by omega) (fun j hj hm => h2 j (by omega) hm) h3
theorem firstFrom_spec {p : Nat → Bool} : ∀ {k i : Nat}, i ≤ firstFrom p k i ∧ firstFrom p k i ≤ i + k ∧ (∀ j, i ≤ j → j < firstFrom p k i → p j = false) ∧ (firstFrom p k i < i + k → p (firstFrom p k i) = true)
  | 0, i => ⟨Nat.le_refl _, Nat.le_refl _, fun j h h' => by simp [firstFrom] at h'; omega, fun h => by simp [firstFrom] at h⟩
  | k + 1, i => by
    unfold firstFrom
    by_cases h : p i = true
    · rw [if_pos h]
      exact ⟨Nat.le_refl _, by omega, fun j h h' => by omega, fun _ => h⟩
    · rw [if_neg h]
      obtain ⟨h0, h1, h2, h3⟩ := firstFrom_spec (p := p) (k := k) (i := i + 1)
      exact ⟨by omega, by omega, fun j hj hm => by
        by_cases hj2 : j = i
        · subst hj2; simpa using h
        · exact h2 j (by omega) hm, fun hm => h3 (by omega)⟩
/-- two cells of a box are written -/
theorem put2 {w : World} {b : Nat} {x0 x1 : Value} (c0 : w.cell? ⟨b, 0, none⟩ = some x0) (c1 : w.cell? ⟨b, 1, none⟩ = some x1) (v0 v1 : Value) :
    (w.setCell ⟨b, 0, none⟩ v0).cell? ⟨b, 0, none⟩ = some v0 ∧ ((w.setCell ⟨b, 0, none⟩ v0).setCell ⟨b, 1, none⟩ v1).cell? ⟨b, 1, none⟩ = some v1 :=
  ⟨World.cell?_setCell_same _ _ _ c0, World.cell?_setCell_same _ _ _ ((World.cell?_setCell_other _ _ _ _ (by simp)).trans c1)⟩
def allB (n : Nat) (p : Nat → Bool) : Bool := (List.range n).all p
theorem allB_iff {n : Nat} {p : Nat → Bool} : allB n p = true ↔ ∀ i, i < n → p i = true := by simp [allB, List.all_eq_true]
theorem allB_false {n k : Nat} {p : Nat → Bool} (h : k < n) (hp : p k = false) : allB n p = false := by
  rw [Bool.eq_false_iff]
  intro ha
  rw [allB_iff.1 ha k h] at hp
  cases hp
structure Box (g : Nat) (cs : Array Value) (t : TypeId) (w : World) : Prop where
  row : w.heap[g]? = some (.cells cs t (0, 0))
theorem Box.lt {g : Nat} {cs : Array Value} {t : TypeId} {w : World} (h : Box g cs t w) : g < w.heap.size := by
  rcases Nat.lt_or_ge g w.heap.size with h1 | h1
  · exact h1
  · have := h.row
    rw [Array.getElem?_eq_none h1] at this; cases this
theorem Box.new {g : Nat} (cs : Array Value) (t : TypeId) (w : World) (h : g = w.heap.size) : Box g cs t (w.alloc (.cells cs t)) := ⟨by subst h; exact World.alloc_heap_new w _⟩
theorem Box.old {g : Nat} {cs : Array Value} {t : TypeId} {w : World} (h : Box g cs t w) (o : Obj) : Box g cs t (w.alloc o) := ⟨by rw [Below.heap_alloc _ _ _ h.lt]; exact h.row⟩
theorem Box.below {g : Nat} {cs : Array Value} {t : TypeId} {w w' : World} (h : Box g cs t w) (hb : Below w.heap.size w w') : Box g cs t w' := ⟨(hb.block g h.lt).trans h.row⟩
theorem Box.drew {g : Nat} {cs : Array Value} {t : TypeId} {w : World} (h : Box g cs t w) : Box g cs t w.drew := ⟨h.row⟩
theorem Box.drewN {g : Nat} {cs : Array Value} {t : TypeId} {w : World} (h : Box g cs t w) (n : Nat) : Box g cs t (w.drewN n) := h.below (below_drewN (Below.refl _ _) n)
theorem Box.cell {g : Nat} {cs : Array Value} {t : TypeId} {w : World} (h : Box g cs t w) (i : Nat) {v : Value} (hi : cs[i]? = some v) : w.cell? ⟨g, i, none⟩ = some v := (cell_of_row w g i _ t (0, 0) h.row).trans hi
theorem Box.frozen {g : Nat} {cs : Array Value} {t : TypeId} {w : World} (h : Box g cs t w) (i : Nat) : w.frozen? ⟨g, i, none⟩ = false := by
  have := h.row
  simp [World.frozen?, this]
theorem Box.other {g g' : Nat} {cs : Array Value} {t : TypeId} {w : World} (h : Box g cs t w) (hne : g ≠ g') (i : Nat) (v : Value) : Box g cs t (w.setCell ⟨g', i, none⟩ v) := ⟨(Below.heap_setCell w ⟨g', i, none⟩ v g hne).trans h.row⟩
theorem Box.set {g : Nat} {cs : Array Value} {t : TypeId} {w : World} (h : Box g cs t w) (i : Nat) (v : Value) : Box g (cs.setIfInBounds i v) t (w.setCell ⟨g, i, none⟩ v) := ⟨by
  have := h.row
  simp [World.setCell, Array.getElem?_modify, this]⟩
theorem Box.set2 {g : Nat} {x y : Value} {t : TypeId} {w : World} (h : Box g #[x, y] t w) (u v : Value) : Box g #[u, v] t ((w.setCell ⟨g, 0, none⟩ u).setCell ⟨g, 1, none⟩ v) := (h.set 0 u).set 1 v
theorem below_alloc1 (w : World) (o : Obj) : Below w.heap.size w (w.alloc o) := (Below.refl _ _).alloc (Nat.le_refl _) _
section
variable {P : Program}
/-- rows of two types are two blocks -/
theorem owns_other {w w' : World} {base e1 e2 s1 s2 n1 n2 : Nat} {v1 v2 : Value} {xs1 xs2 : List Value} (h1 : w.ownsRow base e1 s1 v1 n1 xs1) (h2 : w.ownsRow base e2 s2 v2 n2 xs2) (hne : e1 ≠ e2) (hg : w.grownBy w' v1.ownBlock) : w'.ownsRow base e2 s2 v2 n2 xs2 := by
  refine h2.kept hg ?_
  rcases h2.2 with ⟨rfl, _⟩ | ⟨g2, c2, cur2, rfl, hb2, hg2, _⟩
  · exact .inl rfl
  · rcases h1.2 with ⟨rfl, _⟩ | ⟨g1, c1, cur1, rfl, hb1, hg1, _⟩
    · right; simp [Value.ownBlock]
    · right
      simp only [Value.ownBlock, ne_eq, Option.some.injEq]
      intro e
      rw [e] at hg2
      rw [hg1] at hg2
      simp at hg2
      exact hne hg2.2
theorem wp_append_gen {o : Oper} {a : Act} {w : World} {K : Act → World → Prop} {Q : Exit → Act → World → Prop} (s x : Operand) (t : TypeId)
    (ho : o.op = .call { callee := .builtin .append, args := #[s, x], argTypes := #[t, t] })
    (base : Nat) (e : TypeId) (i : TypeInfo) (z : Value) (size bytes : Nat) (ht : P.underlying t = some (.slice e)) (hi : P.info? e = some i) (hz : i.zero = some z)
    (hsize : i.size = size) (hby : i.bytes = bytes) (hzs : z.cells.size = size) (hsz : 0 < size)
    (v : Value) (n : Nat) (xs : List Value) (hs : a.eval s = v) (hown : w.ownsRow base e size v n xs)
    (oa : Option Addr) (m c : Nat) (news : List Value) (hx : a.eval x = .slice oa m c) (hnil : oa = none → m = 0 ∧ c = 0) (hl : news.length = m * size) (hnews : ∀ ad, oa = some ad → ∀ j u, news[j]? = some u → w.cell? (ad.add j) = some u) (h1 : ∀ u ∈ news, u.oneCell' = true)
    (h63 : n + m ≤ maxLen) (hbytes : (n + m) * bytes ≤ 140737488355328) (hbase : base ≤ w.heap.size)
    (h : ∀ v' w', w'.ownsRow base e size v' (n + m) (xs ++ news) → w.grownBy w' v.ownBlock → K (a.put o.dst v') w') : o.wp P a w K Q := by
  cases oa with
  | none =>
    obtain ⟨rfl, rfl⟩ := hnil rfl
    have hrun := run_append_owned_none (P := P) (w := w) base t o.type e i size ht hi v n xs hown
    have e0 : news = [] := List.eq_nil_of_length_eq_zero (by omega)
    subst e0
    unfold Oper.wp
    simp [execOp, ho, resolve, invoke, builtin, hs, hx, hrun, Result.andThen]
    exact h v w (by simpa using hown) ⟨rfl, rfl, rfl, Nat.le_refl _, fun k _ _ => rfl⟩
  | some ad =>
    obtain ⟨v', w', hrun, hown', hgrow, -⟩ := run_append_own (P := P) (w := w) base t o.type e i z size bytes ht hi hz hsize hby hzs hsz v n xs hown ad m c news hl (hnews ad rfl) h1 h63 hbytes hbase
    unfold Oper.wp
    simp [execOp, ho, resolve, invoke, builtin, hs, hx, hrun, Result.andThen]
    exact h v' w' hown' hgrow
theorem step_append_gen {ops : Array Oper} {o : Oper} {a : Act} {w : World} {K : Act → World → Prop} {Q : Exit → Act → World → Prop} {E : Prop} (hgd : o.guard = none) (s x : Operand) (t : TypeId)
    (ho : o.op = .call { callee := .builtin .append, args := #[s, x], argTypes := #[t, t] })
    (base : Nat) (e : TypeId) (i : TypeInfo) (z : Value) (size bytes : Nat) (ht : P.underlying t = some (.slice e)) (hi : P.info? e = some i) (hz : i.zero = some z)
    (hsize : i.size = size) (hby : i.bytes = bytes) (hzs : z.cells.size = size) (hsz : 0 < size)
    (v : Value) (n : Nat) (xs : List Value) (hs : a.eval s = v) (oa : Option Addr) (m c : Nat) (news : List Value) (hx : a.eval x = .slice oa m c) (hown : w.ownsRow base e size v n xs)
    (hnil : oa = none → m = 0 ∧ c = 0) (hl : news.length = m * size) (hnews : ∀ ad, oa = some ad → ∀ j u, news[j]? = some u → w.cell? (ad.add j) = some u) (h1 : ∀ u ∈ news, u.oneCell' = true)
    (h63 : n + m ≤ maxLen) (hbytes : (n + m) * bytes ≤ 140737488355328) (hbase : base ≤ w.heap.size)
    (h : ∀ v' w', w'.ownsRow base e size v' (n + m) (xs ++ news) → w.grownBy w' v.ownBlock → K (a.put o.dst v') w') :
    if Region.wanted o (yielded ops a.tmps) = true then Oper.wp P o a w K Q else E := by
  have hw : Region.wanted o (yielded ops a.tmps) = true := by simp [Region.wanted, hgd]
  rw [if_pos hw]
  exact wp_append_gen s x t ho base e i z size bytes ht hi hz hsize hby hzs hsz v n xs hs hown oa m c news hx hnil hl hnews h1 h63 hbytes hbase h
theorem wpList_append_gen {ops : Array Oper} {rest : List Oper} {o : Oper} {a : Act} {w : World} {Q : Exit → Act → World → Prop} (hgd : o.guard = none) (s x : Operand) (t : TypeId)
    (ho : o.op = .call { callee := .builtin .append, args := #[s, x], argTypes := #[t, t] })
    (base : Nat) (e : TypeId) (i : TypeInfo) (z : Value) (size bytes : Nat) (ht : P.underlying t = some (.slice e)) (hi : P.info? e = some i) (hz : i.zero = some z)
    (hsize : i.size = size) (hby : i.bytes = bytes) (hzs : z.cells.size = size) (hsz : 0 < size)
    (v : Value) (n : Nat) (xs : List Value) (hs : a.eval s = v) (oa : Option Addr) (m c : Nat) (news : List Value) (hx : a.eval x = .slice oa m c) (hown : w.ownsRow base e size v n xs)
    (hnil : oa = none → m = 0 ∧ c = 0) (hl : news.length = m * size) (hnews : ∀ ad, oa = some ad → ∀ j u, news[j]? = some u → w.cell? (ad.add j) = some u) (h1 : ∀ u ∈ news, u.oneCell' = true)
    (h63 : n + m ≤ maxLen) (hbytes : (n + m) * bytes ≤ 140737488355328) (hbase : base ≤ w.heap.size)
    (h : ∀ v' w', w'.ownsRow base e size v' (n + m) (xs ++ news) → w.grownBy w' v.ownBlock → wpList P ops Q rest (a.put o.dst v') w') : wpList P ops Q (o :: rest) a w :=
  wpList_plain hgd fun _ hK => wp_append_gen s x t ho base e i z size bytes ht hi hz hsize hby hzs hsz v n xs hs hown oa m c news hx hnil hl hnews h1 h63 hbytes hbase fun v' w' h2 h3 => hK _ _ (h v' w' h2 h3)
end
theorem below_grown {w1 W W' : World} {v : Value} {e size n : Nat} {xs : List Value} (hb : Below w1.heap.size w1 W) (hown : W.ownsRow w1.heap.size e size v n xs) (hg : W.grownBy W' v.ownBlock) : Below w1.heap.size w1 W' := by
  refine ⟨hg.os.trans hb.os, hg.tape.trans hb.tape, hg.output.trans hb.output, Nat.le_trans hb.size hg.size, fun k hk => ?_⟩
  rw [hg.block k (Nat.lt_of_lt_of_le hk hb.size) (fun e => ?_)]
  · exact hb.block k hk
  · have := hown.lt k e.symm
    omega
/-- a slice that was just made, empty -/
theorem owns_empty {X : World} {base g e size : Nat} (hb : base ≤ g) (hg : X.heap[g]? = some (.cells #[] e)) : X.ownsRow base e size (.slice (some ⟨g, 0, none⟩) 0 0) 0 [] :=
  ⟨by simp, .inr ⟨g, 0, #[], rfl, hb, hg, Nat.le_refl _, Nat.zero_le _, by simp, by simp⟩⟩
theorem heap_new {W : World} {o : Obj} {g : Nat} (h : g = W.heap.size) : (W.alloc o).heap[g]? = some o := by
  subst h; exact World.alloc_heap_new W o
theorem heap_old {W : World} {o : Obj} {g : Nat} {q : Option Obj} (h : g < W.heap.size) (hq : W.heap[g]? = q) : (W.alloc o).heap[g]? = q := by
  rw [Below.heap_alloc _ _ _ h]; exact hq
theorem heap_grown {W W' : World} {v : Value} {g : Nat} {q : Option Obj} (hg : W.grownBy W' v.ownBlock) (h : g < W.heap.size) (hne : some g ≠ v.ownBlock) (hq : W.heap[g]? = q) : W'.heap[g]? = q := by
  rw [hg.block g h hne]; exact hq
theorem news_at {n : Nat} {f : Nat → Int} {j : Nat} {u : Value} (h : ((List.range n).map fun j => Value.int .i64 (f j))[j]? = some u) : j < n ∧ u = .int .i64 (f j) := by
  rw [List.getElem?_map] at h
  cases hj : (List.range n)[j]? with
  | none => rw [hj] at h; cases h
  | some k =>
    rw [hj] at h
    obtain ⟨hlt, e⟩ := List.getElem?_eq_some_iff.1 hj
    simp at hlt e
    subst e
    simp at h
    exact ⟨hlt, h.symm⟩
theorem add_flat {b off j : Nat} : (⟨b, off, none⟩ : Addr).add j = ⟨b, off + j, none⟩ := by
  unfold Addr.add
  split
  · rename_i h; subst h; rfl
  · rfl
theorem news_one {n : Nat} {f : Nat → Int} : ∀ u ∈ ((List.range n).map fun j => Value.int .i64 (f j)), u.oneCell' = true := fun u hu => by
  obtain ⟨j, _, rfl⟩ := List.mem_map.1 hu
  rfl
theorem owns_form {w : World} {base e size n : Nat} {v : Value} {xs : List Value} (h : w.ownsRow base e size v n xs) : ∃ oa cap, v = .slice oa n cap ∧ ∀ j u, xs[j]? = some u → ∃ g, oa = some ⟨g, 0, none⟩ ∧ g < w.heap.size ∧ w.cell? ⟨g, j, none⟩ = some u := by
  obtain ⟨hl, h⟩ := h
  rcases h with ⟨rfl, rfl⟩ | ⟨g, cap, cur, rfl, hb, hg, hn, hc, hcs, hx⟩
  · exact ⟨none, 0, rfl, fun j u hu => by
      have : xs = [] := List.eq_nil_of_length_eq_zero (by omega)
      subst this; cases hu⟩
  · refine ⟨_, cap, rfl, fun j u hu => ⟨g, rfl, ?_, ?_⟩⟩
    · rcases Nat.lt_or_ge g w.heap.size with h1 | h1
      · exact h1
      · rw [Array.getElem?_eq_none h1] at hg; cases hg
    · rw [cell_of_row w g j cur e (0, 0) hg]
      rw [← hx, List.getElem?_take] at hu
      split at hu
      · simpa using hu
      · cases hu
theorem news_get {n : Nat} {f : Nat → Int} {j : Nat} (hj : j < n) : ((List.range n).map fun j => Value.int .i64 (f j))[j]? = some (.int .i64 (f j)) := by
  rw [List.getElem?_map, List.getElem?_range hj]; rfl
/-- nothing has changed but block g, as far as blocks stood before -/
structure But (g : Nat) (w w' : World) : Prop where
  os : w'.os = w.os
  tape : w'.tape = w.tape
  output : w'.output = w.output
  size : w.heap.size ≤ w'.heap.size
  block : ∀ k, k < w.heap.size → k ≠ g → w'.heap[k]? = w.heap[k]?
theorem But.below {g B : Nat} {w0 w w' : World} (h : But g w w') (hg : B ≤ g) (hb : Below B w0 w) (hB : B ≤ w.heap.size) : Below B w0 w' :=
  ⟨h.os.trans hb.os, h.tape.trans hb.tape, h.output.trans hb.output, Nat.le_trans hb.size h.size, fun k hk => (h.block k (by omega) (by omega)).trans (hb.block k hk)⟩
theorem But.of_below {g : Nat} {w w' : World} (h : Below w.heap.size w w') : But g w w' := ⟨h.os, h.tape, h.output, h.size, fun k hk _ => h.block k hk⟩
theorem But.trans_below {g : Nat} {w w' w'' : World} (h : But g w w') (k : Below w'.heap.size w' w'') : But g w w'' :=
  ⟨k.os.trans h.os, k.tape.trans h.tape, k.output.trans h.output, Nat.le_trans h.size k.size, fun i hi hne => (k.block i (Nat.lt_of_lt_of_le hi h.size)).trans (h.block i hi hne)⟩
theorem But.setCell {g : Nat} {w w' : World} (h : But g w w') (i : Nat) (v : Value) : But g w (w'.setCell ⟨g, i, none⟩ v) :=
  ⟨h.os, h.tape, h.output, by simpa using h.size, fun k hk hne => (Below.heap_setCell w' ⟨g, i, none⟩ v k hne).trans (h.block k hk hne)⟩
theorem But.refl (g : Nat) (w : World) : But g w w := ⟨rfl, rfl, rfl, Nat.le_refl _, fun _ _ _ => rfl⟩
theorem But.drew {g : Nat} {w w' : World} (h : But g w w') : But g w w'.drew := ⟨h.os, h.tape, h.output, h.size, h.block⟩
theorem But.alloc {g : Nat} {w w' : World} (h : But g w w') (o : Obj) : But g w (w'.alloc o) := h.trans_below (below_alloc1 w' o)
theorem But.trans {g : Nat} {w w' w'' : World} (h : But g w w') (k : But g w' w'') : But g w w'' :=
  ⟨k.os.trans h.os, k.tape.trans h.tape, k.output.trans h.output, Nat.le_trans h.size k.size, fun i hi hne => (k.block i (Nat.lt_of_lt_of_le hi h.size) hne).trans (h.block i hi hne)⟩
theorem But.cell {g n i : Nat} {w w' : World} (h : But g w w') (hn : n < w.heap.size) (hne : n ≠ g) : w'.cell? ⟨n, i, none⟩ = w.cell? ⟨n, i, none⟩ := World.cell?_of_block (h.block n hn hne)
theorem owns_base {w : World} {base e size n : Nat} {oa : Option Addr} {cap : Nat} {xs : List Value} (h : w.ownsRow base e size (.slice oa n cap) n xs) (a : Addr) (ha : oa = some a) : base ≤ a.block := by
  subst ha
  obtain ⟨hl, h⟩ := h
  rcases h with ⟨h0, _⟩ | ⟨g, cap', cur, h0, hb, _⟩
  · cases h0
  · cases h0; exact hb
theorem news_blk2 {W : World} {g e : Nat} {x y u : Value} {j : Nat} (h : W.heap[g]? = some (.cells #[x, y] e (0, 0))) (hu : [x, y][j]? = some u) : W.cell? ((⟨g, 0, none⟩ : Addr).add j) = some u := by
  rw [add_flat, Nat.zero_add, cell_of_row W g j _ e (0, 0) h]
  simpa using hu
theorem cell_same {W W' : World} {g i : Nat} (h : W'.heap[g]? = W.heap[g]?) : W'.cell? ⟨g, i, none⟩ = W.cell? ⟨g, i, none⟩ := World.cell?_of_block h
theorem But.grown {g : Nat} {w W W' : World} {v : Value} {e size n : Nat} {xs : List Value} (h : But g w W) (hown : W.ownsRow w.heap.size e size v n xs) (hg : W.grownBy W' v.ownBlock) : But g w W' := by
  refine ⟨hg.os.trans h.os, hg.tape.trans h.tape, hg.output.trans h.output, Nat.le_trans h.size hg.size, fun k hk hne => ?_⟩
  rw [hg.block k (Nat.lt_of_lt_of_le hk h.size) (fun e9 => ?_)]
  · exact h.block k hk hne
  · have := hown.lt k e9.symm
    omega
theorem owns_set {w : World} {base e size n g i : Nat} {v u : Value} {xs : List Value} (h : w.ownsRow base e size v n xs) (hne : ∀ b, v.ownBlock = some b → b ≠ g) : (w.setCell ⟨g, i, none⟩ u).ownsRow base e size v n xs := by
  refine h.kept (row := some g) ⟨rfl, rfl, rfl, by simp, fun k _ hk => Below.heap_setCell w ⟨g, i, none⟩ u k (fun e9 => hk (by rw [show k = g from e9]))⟩ ?_
  rcases h.2 with ⟨rfl, _⟩ | ⟨g', c, cur, rfl, _⟩
  · exact .inl rfl
  · exact .inr (fun e9 => hne g' rfl (by simpa [Value.ownBlock] using e9))
theorem cell_set {W : World} {g i j : Nat} {v u : Value} (h : W.cell? ⟨g, i, none⟩ = some u) : (W.setCell ⟨g, i, none⟩ v).cell? ⟨g, j, none⟩ = if j = i then some v else W.cell? ⟨g, j, none⟩ := by
  split
  · rename_i e; subst e
    exact World.cell?_setCell_same W ⟨g, j, none⟩ v (by rw [h])
  · rename_i e
    exact World.cell?_setCell_other W _ _ v (fun h => e (by injection h with _ h2 _; exact h2.symm))
theorem But.box {g g' : Nat} {cs : Array Value} {t : TypeId} {w w' : World} (k : But g' w w') (h : Box g cs t w) (hne : g ≠ g') : Box g cs t w' := ⟨(k.block g h.lt hne).trans h.row⟩
/-- n pairs of integers lie in memory -/
def PairsAt (w : World) (oa : Option Addr) (n : Nat) (f g : Nat → Int) : Prop :=
  ∀ i, i < n → ∃ b off, oa = some ⟨b, off, none⟩ ∧ b < w.heap.size ∧ w.cell? ⟨b, off + i * 2, none⟩ = some (.int .i64 (f i)) ∧ w.cell? ⟨b, off + i * 2 + 1, none⟩ = some (.int .i64 (g i))
def pairNews (n : Nat) (f g : Nat → Int) : List Value := (List.range (n * 2)).map fun j => .int .i64 (if j % 2 = 0 then f (j / 2) else g (j / 2))
theorem pair_news_succ (n : Nat) (f g : Nat → Int) : pairNews (n + 1) f g = pairNews n f g ++ [.int .i64 (f n), .int .i64 (g n)] := by
  unfold pairNews
  rw [Nat.succ_mul, List.range_add, List.map_append]
  congr 1
  simp [List.range_succ_eq_map]
  rw [show (n * 2 + 1) / 2 = n by omega]
theorem pair_news_congr {n : Nat} {f g f' g' : Nat → Int} (h : ∀ i, i < n → f i = f' i ∧ g i = g' i) : pairNews n f g = pairNews n f' g' := by
  unfold pairNews
  refine List.map_congr_left fun j hj => ?_
  have := h (j / 2) (by have := List.mem_range.1 hj; omega)
  rw [this.1, this.2]
theorem owns_pairs {w : World} {base e n : Nat} {v : Value} {f g : Nat → Int} (h : w.ownsRow base e 2 v n (pairNews n f g)) : ∃ oa cap, v = .slice oa n cap ∧ PairsAt w oa n f g ∧ ∀ a, oa = some a → base ≤ a.block := by
  obtain ⟨oa, cap, rfl, hx⟩ := owns_form h
  refine ⟨oa, cap, rfl, fun i hi => ?_, owns_base h⟩
  have c0 := hx (i * 2) _ (news_get (by omega))
  have c1 := hx (i * 2 + 1) _ (news_get (by omega))
  obtain ⟨k, e, hk, h0⟩ := c0
  obtain ⟨k1, e1, _, h1⟩ := c1
  subst e
  cases e1
  rw [if_pos (by omega), show i * 2 / 2 = i by omega] at h0
  rw [if_neg (by omega), show (i * 2 + 1) / 2 = i by omega] at h1
  exact ⟨k, 0, rfl, hk, by rw [Nat.zero_add]; exact h0, by rw [Nat.zero_add]; exact h1⟩
/-- n integers lie in memory -/
def IntsAt (w : World) (oa : Option Addr) (n : Nat) (f : Nat → Int) : Prop :=
  ∀ i, i < n → ∃ b off, oa = some ⟨b, off, none⟩ ∧ b < w.heap.size ∧ w.cell? ⟨b, off + i, none⟩ = some (.int .i64 (f i))
theorem IntsAt.mono {w w' : World} {oa : Option Addr} {n : Nat} {f : Nat → Int} (h : IntsAt w oa n f) (hb : Below w.heap.size w w') : IntsAt w' oa n f := fun i hi => by
  obtain ⟨b, off, ha, hlt, h0⟩ := h i hi
  exact ⟨b, off, ha, Nat.lt_of_lt_of_le hlt hb.size, (hb.cell (p := ⟨b, off + i, none⟩) hlt).trans h0⟩
theorem PairsAt.mono {w w' : World} {oa : Option Addr} {n : Nat} {f g : Nat → Int} (h : PairsAt w oa n f g) (hb : Below w.heap.size w w') : PairsAt w' oa n f g := fun i hi => by
  obtain ⟨b, off, ha, hlt, h0, h1⟩ := h i hi
  exact ⟨b, off, ha, Nat.lt_of_lt_of_le hlt hb.size, (hb.cell (p := ⟨b, off + i * 2, none⟩) hlt).trans h0, (hb.cell (p := ⟨b, off + i * 2 + 1, none⟩) hlt).trans h1⟩
def intNews (n : Nat) (f : Nat → Int) : List Value := (List.range n).map fun j => .int .i64 (f j)
theorem int_news_succ (n : Nat) (f : Nat → Int) : intNews (n + 1) f = intNews n f ++ [.int .i64 (f n)] := by simp [intNews, List.range_succ]
theorem owns_ints {w : World} {base e n : Nat} {v : Value} {f : Nat → Int} (h : w.ownsRow base e 1 v n (intNews n f)) : ∃ oa cap, v = .slice oa n cap ∧ IntsAt w oa n f ∧ ∀ a, oa = some a → base ≤ a.block := by
  obtain ⟨oa, cap, rfl, hx⟩ := owns_form h
  refine ⟨oa, cap, rfl, fun i hi => ?_, owns_base h⟩
  obtain ⟨k, e, hk, h0⟩ := hx i _ (news_get hi)
  subst e
  exact ⟨k, 0, rfl, hk, by rw [Nat.zero_add]; exact h0⟩
theorem PairsAt.but {w w' : World} {oa : Option Addr} {n g : Nat} {f f' : Nat → Int} (h : PairsAt w oa n f f') (hb : ∀ a, oa = some a → a.block ≠ g) (k : But g w w') : PairsAt w' oa n f f' := fun i hi => by
  obtain ⟨b, off, rfl, hlt, h0, h1⟩ := h i hi
  have hne : b ≠ g := hb _ rfl
  exact ⟨b, off, rfl, Nat.lt_of_lt_of_le hlt k.size, (k.cell hlt hne).trans h0, (k.cell hlt hne).trans h1⟩
theorem owns_mono {w : World} {base base' e size n : Nat} {v : Value} {xs : List Value} (h : w.ownsRow base e size v n xs) (hb : base' ≤ base) : w.ownsRow base' e size v n xs := by
  obtain ⟨hl, h⟩ := h
  refine ⟨hl, h.imp id ?_⟩
  rintro ⟨g, cap, cur, h0, h1, h2⟩
  exact ⟨g, cap, cur, h0, Nat.le_trans hb h1, h2⟩
theorem But.grown' {g base : Nat} {w W W' : World} {v : Value} {e size n : Nat} {xs : List Value} (h : But g w W) (hown : W.ownsRow base e size v n xs) (hb : w.heap.size ≤ base) (hg : W.grownBy W' v.ownBlock) : But g w W' := h.grown (owns_mono hown hb) hg
structure Two (p q : Nat) (w w' : World) : Prop where
  size : w.heap.size ≤ w'.heap.size
  block : ∀ k, k < w.heap.size → k ≠ p → k ≠ q → w'.heap[k]? = w.heap[k]?
theorem Two.refl (p q : Nat) (w : World) : Two p q w w := ⟨Nat.le_refl _, fun _ _ _ _ => rfl⟩
theorem Two.drew {p q : Nat} {w w' : World} (h : Two p q w w') : Two p q w w'.drew := ⟨h.size, h.block⟩
theorem Two.setP {p q i : Nat} {v : Value} {w w' : World} (h : Two p q w w') : Two p q w (w'.setCell ⟨p, i, none⟩ v) := ⟨by simpa using h.size, fun k hk hp hq => (Below.heap_setCell w' ⟨p, i, none⟩ v k hp).trans (h.block k hk hp hq)⟩
theorem Two.setQ {p q i : Nat} {v : Value} {w w' : World} (h : Two p q w w') : Two p q w (w'.setCell ⟨q, i, none⟩ v) := ⟨by simpa using h.size, fun k hk hp hq => (Below.heap_setCell w' ⟨q, i, none⟩ v k hq).trans (h.block k hk hp hq)⟩
theorem Two.below {p q : Nat} {w w' w'' : World} (h : Two p q w w') (hb : Below w'.heap.size w' w'') : Two p q w w'' := ⟨Nat.le_trans h.size hb.size, fun k hk hp hq => (hb.block k (Nat.lt_of_lt_of_le hk h.size)).trans (h.block k hk hp hq)⟩
theorem Two.cell {p q n i : Nat} {v : Value} {w w' : World} (h : Two p q w w') (hc : w.cell? ⟨n, i, none⟩ = some v) (hn : n < w.heap.size) (hp : n ≠ p) (hq : n ≠ q) : w'.cell? ⟨n, i, none⟩ = some v := (World.cell?_of_block (h.block n hn hp hq)).trans hc
theorem Two.box {p q g : Nat} {cs : Array Value} {t : TypeId} {w w' : World} (h : Two p q w w') (hb : Box g cs t w) (hp : g ≠ p) (hq : g ≠ q) : Box g cs t w' := ⟨(h.block g hb.lt hp hq).trans hb.row⟩
theorem below_row {w w' : World} {o : Obj} {base e size n : Nat} {v : Value} {xs : List Value} (h : w.ownsRow base e size v n xs) (hg : (w.alloc o).grownBy w' v.ownBlock) (hb : base ≤ w.heap.size) : Below base (w.alloc o) w' := by
  refine ⟨hg.os, hg.tape, hg.output, hg.size, fun k hk => hg.block k (by simp; omega) (fun e9 => ?_)⟩
  have := h.lt k e9.symm
  omega
theorem news_blk1 {W : World} {g e : Nat} {x u : Value} {j : Nat} (h : W.heap[g]? = some (.cells #[x] e (0, 0))) (hu : [x][j]? = some u) : W.cell? ((⟨g, 0, none⟩ : Addr).add j) = some u := by
  rw [add_flat, Nat.zero_add, cell_of_row W g j _ e (0, 0) h]
  simpa using hu
theorem owns_below {w w' : World} {base e size n : Nat} {v : Value} {xs : List Value} (h : w.ownsRow base e size v n xs) (hb : Below w.heap.size w w') : w'.ownsRow base e size v n xs :=
  h.kept (row := none) ⟨hb.os, hb.tape, hb.output, hb.size, fun k hk _ => hb.block k hk⟩ (by cases v.ownBlock <;> simp)
theorem owns_none {w : World} {base e size : Nat} : w.ownsRow base e size (.slice none 0 0) 0 [] := ⟨by simp, .inl ⟨rfl, rfl⟩⟩
def spanNews (n : Nat) (f : Nat → Spn) : List Value := pairNews n (fun i => (f i).lo) (fun i => (f i).hi)
theorem owns_spans {w : World} {base e n : Nat} {v : Value} {f : Nat → Spn} (h : w.ownsRow base e 2 v n (spanNews n f)) : ∃ oa cap, v = .slice oa n cap ∧ SpnsAt w oa n f ∧ ∀ a, oa = some a → base ≤ a.block := owns_pairs h
/-- a box that holds a span -/
abbrev SB (s : Spn) (t : TypeId) (g : Nat) (w : World) : Prop := Box g #[.int .i64 s.lo, .int .i64 s.hi] t w
/-- the worlds behind w in which nothing old has changed -/
structure Aft (w : World) : Type where
  val : World
  below : Below w.heap.size w val
instance aftNonempty (w : World) : Nonempty (Aft w) := ⟨⟨w, Below.refl _ _⟩⟩
section
variable {P : Program}
theorem wp_region_aft {id : Nat} {Q : Exit → Act → World → Prop} {a : Act} {w : World} {l : List Oper} (hm : P.follows .mixedOrders = true) (hB : Region.lexB .any l.toArray = true)
    (h : wpQuiet P l.toArray (fun w' => ∃ W : Aft w, w' = W.val) (fun a' => ∀ W : Aft w, Q .normal a' W.val) l a) : (Code.region id l.toArray true).wp P Q a w := by
  refine wp_region_quiet (C := fun w' => ∃ W : Aft w, w' = W.val) hm hB ⟨⟨w.drew, (Below.refl _ _).drew⟩, rfl⟩ ?_
  have e : (fun a' => ∀ w', (∃ W : Aft w, w' = W.val) → Q .normal a' w') = fun a' => ∀ W : Aft w, Q .normal a' W.val := by
    funext a'
    exact propext ⟨fun h W => h _ ⟨W, rfl⟩, fun h w' ⟨W, e⟩ => e ▸ h W⟩
  rw [e]
  simpa using h
theorem aft_call {f : FuncId} {args : Array Value} {w : World} {W : Aft w} {v : Value} (h : Calls P f args W.val fun e w' => e = .returned v ∧ Below W.val.heap.size W.val w') :
    Calls P f args W.val fun e w'' => e = .returned v ∧ ∃ W' : Aft w, w'' = W'.val :=
  h.mono fun _ w' h => ⟨h.1, ⟨⟨w', W.below.trans (h.2.mono W.below.size)⟩, rfl⟩⟩
end
section
variable {P : Program} {ops : Array Oper} {Q : Exit → Act → World → Prop} {md : Region.Mode} {C : World → Prop}
/-- the worlds behind w1 in which nothing that existed has changed -/
def Succ (w1 : World) (w' : World) : Prop := ∃ W : Aft w1, w' = W.val
/-- in state a, in every world of the class, the operation leads to the frame aN and changes nothing that exists -/
def YG (P : Program) (ops : Array Oper) (C : World → Prop) (o : Oper) (a aN : Act) : Prop :=
  (Region.wanted o (yielded ops a.tmps) = true ∧ ∀ w1, C w1 → ∃ v, o.quietAt P a (Succ w1) w1 v ∧ a.put o.dst v = aN) ∨
  (Region.wanted o (yielded ops a.tmps) = false ∧ a.put o.dst undef = aN)
theorem YG.form {o : Oper} {a aN : Act} (h : YG P ops C o a aN) {w : World} (hw : C w) : ∃ v, a.put o.dst v = aN := by
  rcases h with ⟨-, h⟩ | ⟨-, h⟩
  · obtain ⟨v, -, hv⟩ := h w hw; exact ⟨v, hv⟩
  · exact ⟨_, h⟩
theorem YG.put {o oj : Oper} {a : Act} {v u : Value} (h : YG P ops C o a (a.put o.dst v)) (hs : ∀ cs b, o.op ≠ .select cs b)
    (h2 : ∀ d, o.dst = some d → oj.dst ≠ some d) (h3 : ∀ d, oj.dst = some d → d ∉ o.looksAt ops) : YG P ops C o (a.put oj.dst u) ((a.put oj.dst u).put o.dst v) := by
  have e1 := execOp_put o hs a oj.dst u h3
  have e2 := wanted_put o a oj.dst u h3
  have cm : ∀ x, (a.put oj.dst u).put o.dst x = (a.put o.dst x).put oj.dst u := fun x => (Act.put_comm a x u h2).symm
  unfold YG Oper.quietAt at *
  rw [e1, e2]
  rcases h with ⟨hw, h⟩ | ⟨hw, h⟩
  · exact .inl ⟨hw, fun w1 h1 => (h w1 h1).imp fun x hx => ⟨hx.1, by rw [cm, cm, hx.2]⟩⟩
  · exact .inr ⟨hw, by rw [cm, cm, h]⟩
theorem put_defers' (a : Act) (x : Option Tmp) (v : Value) (D : List Deferred) : ({ a with defers := D } : Act).put x v = { a.put x v with defers := D } := by cases x <;> rfl
theorem YG.defers {o : Oper} {a : Act} {v : Value} (h : YG P ops C o a (a.put o.dst v)) (D : List Deferred) : YG P ops C o { a with defers := D } (({ a with defers := D } : Act).put o.dst v) := by
  unfold YG Oper.quietAt at *
  simp only [put_defers']
  rcases h with ⟨hw, h⟩ | ⟨hw, h⟩
  · exact .inl ⟨hw, fun w1 h1 => (h w1 h1).imp fun x hx => ⟨hx.1, by rw [hx.2]⟩⟩
  · exact .inr ⟨hw, by rw [h]⟩
theorem wpOp_putG {j : Nat} {oi oj : Oper} {v : Value} (hj : ops[j]? = some oj) (hap : oi.apart ops oj = true)
    (hsi : ∀ cs b, oi.op ≠ .select cs b) (hsj : ∀ cs b, oj.op ≠ .select cs b)
    (hQ : ∀ c a w, Q (.panic c) (a.put oi.dst v) w → Q (.panic c) a w) {K : Act → World → Prop} {a : Act} {w : World}
    (hy : YG P ops C oi a (a.put oi.dst v)) (h : wpOp P ops Q j K (a.put oi.dst v) w) :
    wpOp P ops Q j (fun a' w' => YG P ops C oi a' (a'.put oi.dst v) ∧ K (a'.put oi.dst v) w') a w := by
  obtain ⟨h1, h2, h3⟩ := Oper.apart_spec hap
  have keep : ∀ (a : Act), YG P ops C oi a (a.put oi.dst v) → ∀ u, YG P ops C oi (a.put oj.dst u) ((a.put oj.dst u).put oi.dst v) := fun a hy u => hy.put hsi h2 h3
  unfold wpOp at *
  simp only [hj] at *
  rw [wanted_put oj a oi.dst v h1] at h
  split
  · rename_i hw
    simp only [hw, if_true] at h
    rcases h with h | ⟨hasks, hlets⟩
    case inr => exact .inr ⟨by unfold Oper.asks at *; rw [execOp_put oj hsj a oi.dst v h1] at hasks; exact hasks, hlets⟩
    refine .inl ?_
    unfold Oper.wp at *
    rw [execOp_put oj hsj a oi.dst v h1] at h
    generalize (execOp a.eval oj).run P w = r at *
    cases r with
    | ok n w' =>
      cases n <;> simp only [Oper.upon] at h ⊢
      case value u => exact ⟨keep a hy u, by rw [← Act.put_comm a v u h2]; exact h⟩
      case skip => exact ⟨keep a hy _, by rw [← Act.put_comm a v undef h2]; exact h⟩
      case defer d =>
        refine ⟨keep _ (hy.defers _) _, ?_⟩
        rw [← Act.put_comm _ v undef h2, ← Act.put_defers]
        exact h
      case enter f args =>
        refine Calls.mono h fun e w'' he => ?_
        cases e with
        | returned u => exact ⟨keep a hy u, by rw [← Act.put_comm a v u h2]; exact he⟩
        | panicked c => exact hQ _ _ _ he
        | outgrown => exact he
      case row row args => exact Rows.mono h fun u w'' he => ⟨keep a hy u, by rw [← Act.put_comm a v u h2]; exact he⟩
    | halt x w' =>
      cases x <;> simp only [Oper.upon] at h ⊢
      case panic u => exact hQ _ _ _ h
  · rename_i hw
    simp only [hw] at h
    exact ⟨keep a hy _, by rw [← Act.put_comm a v undef h2]; exact h⟩
/-- whatever order is picked from here on, and whatever is made besides -/
def wpAnyG (P : Program) (md : Region.Mode) (ops : Array Oper) (C : World → Prop) (Q : Exit → Act → World → Prop) : Nat → Array Bool → Act → World → Prop
  | 0, listed, a, w => Region.ready md ops listed = [] ∧ ∀ w', Below w.heap.size w w' → Q .normal a w'
  | fuel + 1, listed, a, w => ∀ w', Below w.heap.size w w' →
    (Region.ready md ops listed = [] → Q .normal a w') ∧
    ∀ i ∈ Region.ready md ops listed, wpOp P ops Q i (fun a' w'' => C w'' ∧ wpAnyG P md ops C Q fuel (listed.setIfInBounds i true) a' w'') a w'
theorem wpAnyG_garb {w w' : World} (hb : Below w.heap.size w w') : ∀ {n : Nat} {listed : Array Bool} {a : Act}, wpAnyG P md ops C Q n listed a w → wpAnyG P md ops C Q n listed a w'
  | 0, _, _, h => ⟨h.1, fun w2 h2 => h.2 w2 (hb.trans (h2.mono hb.size))⟩
  | _ + 1, _, _, h => fun w2 h2 => h w2 (hb.trans (h2.mono hb.size))
theorem wpAnyG_sound : ∀ {n : Nat} {listed : Array Bool} {a : Act} {w : World}, wpAnyG P md ops C Q n listed a w → wpAny P md ops Q n listed a w
  | 0, _, _, w, h => ⟨h.1, h.2 w (Below.refl _ _)⟩
  | _ + 1, _, _, w, h => ⟨(h w (Below.refl _ _)).1, fun i hi => wpOp_mono (fun _ _ h9 => wpAnyG_sound h9.2) ((h w (Below.refl _ _)).2 i hi)⟩
theorem YG.wpOp {i : Nat} {o : Oper} {a aN : Act} (hi : ops[i]? = some o) (hy : YG P ops C o a aN) {K : Act → World → Prop} {w : World} (hw : C w) (h : ∀ w', Below w.heap.size w w' → K aN w') : wpOp P ops Q i K a w := by
  unfold Go.wpOp
  simp only [hi]
  rcases hy with ⟨hwa, hv⟩ | ⟨hwa, e⟩
  · obtain ⟨v, hq, e⟩ := hv w hw
    simp only [hwa, if_true]
    refine .inl ?_
    unfold Oper.quietAt at hq
    unfold Oper.wp
    generalize (execOp a.eval o).run P w = r at *
    cases r with
    | ok n w' =>
      cases n <;> simp only [Oper.quietUpon] at hq <;> simp only [Oper.upon]
      case value u =>
        obtain ⟨e1, e2⟩ := hq
        rw [e1, e2, e]
        exact h _ (Below.refl _ _)
      case skip =>
        obtain ⟨e1, e2⟩ := hq
        rw [e1, ← e2, e]
        exact h _ (Below.refl _ _)
      case enter f args =>
        obtain ⟨e1, hc⟩ := hq
        rw [e1]
        exact hc.mono fun e9 w'' ⟨he, hw''⟩ => by
          subst he
          obtain ⟨W, rfl⟩ := hw''
          simp only [e]
          exact h _ W.below
    | halt x w' => simp only [Oper.quietUpon] at hq
  · simp only [hwa, Bool.false_eq_true, if_false]; rw [e]; exact h _ (Below.refl _ _)
theorem wpAnyG_first {i : Nat} {oi : Oper} (hC : ∀ w w', C w → Below w.heap.size w w' → C w') (hi : ops[i]? = some oi) (hsel : ∀ (j : Nat) (o : Oper) cs b, ops[j]? = some o → o.op ≠ .select cs b)
    (hQ : ∀ c a v w, Q (.panic c) (a.put oi.dst v) w → Q (.panic c) a w) :
    ∀ (fuel : Nat) (listed : Array Bool) (a aN : Act) (w : World), C w →
      (∀ j oj, ops[j]? = some oj → j ≠ i → listed.getD j true = false → (∀ e ∈ oj.after, Region.binds md e = true → e.on ≠ i) → oi.apart ops oj = true) →
      i ∈ Region.ready md ops listed → YG P ops C oi a aN →
      wpAnyG P md ops C Q fuel (listed.setIfInBounds i true) aN w → wpAnyG P md ops C Q (fuel + 1) listed a w := by
  intro fuel
  induction fuel with
  | zero =>
    intro listed a aN w hw _ hr hy H w' hb
    refine ⟨fun h => (by rw [h] at hr; cases hr), fun j hj => ?_⟩
    by_cases hji : j = i
    · subst hji; exact hy.wpOp hi (hC _ _ hw hb) fun w2 h2 => ⟨hC _ _ (hC _ _ hw hb) h2, wpAnyG_garb (hb.trans (h2.mono hb.size)) H⟩
    · have := ready_mono hj hji
      rw [H.1] at this
      cases this
  | succ fuel ih =>
    intro listed a aN w hw hfree hr hy H w' hb
    refine ⟨fun h => (by rw [h] at hr; cases hr), fun j hj => ?_⟩
    have hw' := hC _ _ hw hb
    by_cases hji : j = i
    · subst hji; exact hy.wpOp hi hw' fun w2 h2 => ⟨hC _ _ hw' h2, wpAnyG_garb (hb.trans (h2.mono hb.size)) H⟩
    · obtain ⟨v, hv⟩ := hy.form hw'
      subst hv
      have h1 := (H w' hb).2 j (ready_mono hj hji)
      obtain ⟨hjun, oj, hoj, hall⟩ := mem_ready.1 hj
      have hnot : ∀ e ∈ oj.after, Region.binds md e = true → e.on ≠ i := fun e he hb heq => by
        have h1 := hall e he hb
        have h0 := (mem_ready.1 hr).1
        rw [heq] at h1
        rcases Nat.lt_or_ge i listed.size with h' | h'
        · simp [h'] at h0 h1; rw [h0] at h1; cases h1
        · simp [Array.getElem?_eq_none h'] at h1
      have h2 := wpOp_putG hoj (hfree j oj hoj hji hjun hnot) (fun cs b => hsel i oi cs b hi) (fun cs b => hsel j oj cs b hoj) (fun c a w => hQ c a v w) hy h1
      have hfree' : ∀ k ok, ops[k]? = some ok → k ≠ i → (listed.setIfInBounds j true).getD k true = false →
          (∀ e ∈ ok.after, Region.binds md e = true → e.on ≠ i) → oi.apart ops ok = true := fun k ok hk hki hun hno => by
        refine hfree k ok hk hki ?_ hno
        by_cases hjk : j = k
        · subst hjk; exact hjun
        · rw [getD_set_ne true hjk] at hun; exact hun
      refine wpOp_mono (fun a' w2 h3 => ⟨h3.2.1, ih (listed.setIfInBounds j true) a' _ w2 h3.2.1 hfree' (ready_mono hr (Ne.symm hji)) h3.1 ?_⟩) h2
      rw [Array.setIfInBounds_comm _ _ hji]
      exact h3.2.2
theorem drop_get {l : List Oper} {i : Nat} {o : Oper} {r : List Oper} (h : l.drop i = o :: r) : l.toArray[i]? = some o := by
  have : l[i]? = some o := by rw [← List.head?_drop, h]; rfl
  simpa using this
/-- number i is taken first -/
theorem wpAnyG_take {l r : List Oper} {i : Nat} {oi : Oper} {fuel : Nat} {listed : Array Bool} {a : Act} {w : World} (hC : ∀ w w', C w → Below w.heap.size w w' → C w') (hw : C w) (hi : l.drop i = oi :: r)
    (hs : Region.noSelect l.toArray = true) (hf : Region.free md l.toArray listed i = true) (hr : (Region.ready md l.toArray listed).contains i = true)
    (hQ : ∀ c a v w, Q (.panic c) (a.put oi.dst v) w → Q (.panic c) a w) (hwa : Region.wanted oi (yielded l.toArray a.tmps) = true)
    (h : ∃ aN, (∀ w1, C w1 → ∀ K : Act → Prop, K aN → oi.quiet P a (fun w' => ∃ W : Aft w1, w' = W.val) K) ∧ wpAnyG P md l.toArray C Q fuel (listed.setIfInBounds i true) aN w) : wpAnyG P md l.toArray C Q (fuel + 1) listed a w :=
  let ⟨aN, hy, h⟩ := h
  wpAnyG_first hC (drop_get hi) (Region.noSelect_spec hs) hQ fuel listed a aN w hw (Region.free_spec (drop_get hi) hf) (by simpa using hr)
    (.inl ⟨hwa, fun w1 h1 => by
      obtain ⟨v, h2, h3⟩ := hy w1 h1 (fun a' => a' = aN) rfl
      exact ⟨v, h2 w1 ⟨⟨w1, Below.refl _ _⟩, rfl⟩, h3⟩⟩) h
/-- number i is passed over -/
theorem wpAnyG_skip {l r : List Oper} {i : Nat} {oi : Oper} {fuel : Nat} {listed : Array Bool} {a : Act} {w : World} (hC : ∀ w w', C w → Below w.heap.size w w' → C w') (hw : C w) (hi : l.drop i = oi :: r)
    (hs : Region.noSelect l.toArray = true) (hf : Region.free md l.toArray listed i = true) (hr : (Region.ready md l.toArray listed).contains i = true)
    (hQ : ∀ c a v w, Q (.panic c) (a.put oi.dst v) w → Q (.panic c) a w) (hwa : Region.wanted oi (yielded l.toArray a.tmps) = false)
    (h : wpAnyG P md l.toArray C Q fuel (listed.setIfInBounds i true) (a.put oi.dst undef) w) : wpAnyG P md l.toArray C Q (fuel + 1) listed a w :=
  wpAnyG_first hC (drop_get hi) (Region.noSelect_spec hs) hQ fuel listed a _ w hw (Region.free_spec (drop_get hi) hf) (by simpa using hr) (.inr ⟨hwa, rfl⟩) h
/-- the one that may come up is carried out -/
theorem wpAnyG_one {l r : List Oper} {i : Nat} {oi : Oper} {fuel : Nat} {listed : Array Bool} {a : Act} {w : World} (hr : Region.ready md l.toArray listed = [i]) (hi : l.drop i = oi :: r) (hwa : Region.wanted oi (yielded l.toArray a.tmps) = true)
    (h : ∀ w', Below w.heap.size w w' → ∀ K : Act → World → Prop, (∀ a' w'', C w'' → wpAnyG P md l.toArray C Q fuel (listed.setIfInBounds i true) a' w'' → K a' w'') → oi.wp P a w' K Q) : wpAnyG P md l.toArray C Q (fuel + 1) listed a w := fun w' hb =>
  ⟨fun h0 => (by rw [hr] at h0; cases h0), fun j hj => by
    rw [hr] at hj
    obtain rfl : j = i := by simpa using hj
    unfold wpOp
    simp only [drop_get hi, hwa, if_true]
    exact .inl (h w' hb _ fun _ _ p q => ⟨p, q⟩)⟩
/-- one of two -/
theorem wpAnyG_two {l r r' : List Oper} {i k : Nat} {oi ok : Oper} {fuel : Nat} {listed : Array Bool} {a : Act} {w : World} (hr : Region.ready md l.toArray listed = [i, k]) (hi : l.drop i = oi :: r) (hk : l.drop k = ok :: r') (hwi : Region.wanted oi (yielded l.toArray a.tmps) = true) (hwk : Region.wanted ok (yielded l.toArray a.tmps) = true)
    (h1 : ∀ w', Below w.heap.size w w' → ∀ K : Act → World → Prop, (∀ a' w'', C w'' → wpAnyG P md l.toArray C Q fuel (listed.setIfInBounds i true) a' w'' → K a' w'') → oi.wp P a w' K Q)
    (h2 : ∀ w', Below w.heap.size w w' → ∀ K : Act → World → Prop, (∀ a' w'', C w'' → wpAnyG P md l.toArray C Q fuel (listed.setIfInBounds k true) a' w'' → K a' w'') → ok.wp P a w' K Q) : wpAnyG P md l.toArray C Q (fuel + 1) listed a w := fun w' hb =>
  ⟨fun h0 => (by rw [hr] at h0; cases h0), fun j hj => by
    rw [hr] at hj
    rcases List.mem_cons.1 hj with rfl | hj
    · unfold wpOp
      simp only [drop_get hi, hwi, if_true]
      exact .inl (h1 w' hb _ fun _ _ p q => ⟨p, q⟩)
    · obtain rfl : j = k := by simpa using hj
      unfold wpOp
      simp only [drop_get hk, hwk, if_true]
      exact .inl (h2 w' hb _ fun _ _ p q => ⟨p, q⟩)⟩
theorem wpAnyG_done {listed : Array Bool} {a : Act} {w : World} (hr : Region.ready md ops listed = []) (h : ∀ w', Below w.heap.size w w' → Q .normal a w') : ∀ fuel, wpAnyG P md ops C Q fuel listed a w
  | 0 => ⟨hr, h⟩
  | _ + 1 => fun w' hb => ⟨fun _ => h w' hb, by rw [hr]; simp⟩
theorem wp_region_garb {id : Nat} {a : Act} {w : World} {l : List Oper} (C : World → Prop) (hm : P.follows .mixedOrders = true)
    (h : wpAnyG P .any l.toArray C Q l.length (Array.replicate l.length false) a w.drew) : (Code.region id l.toArray true).wp P Q a w :=
  wp_region_any hm (by simpa using wpAnyG_sound h)
end
/-- block g alone may have changed -/
structure Only (g : Nat) (w w' : World) : Prop where
  os : w'.os = w.os
  tape : w'.tape = w.tape
  output : w'.output = w.output
  size : w'.heap.size = w.heap.size
  block : ∀ k, k ≠ g → w'.heap[k]? = w.heap[k]?
theorem Only.refl (g : Nat) (w : World) : Only g w w := ⟨rfl, rfl, rfl, rfl, fun _ _ => rfl⟩
theorem Only.setCell {g : Nat} {w w' : World} (h : Only g w w') (i : Nat) (v : Value) : Only g w (w'.setCell ⟨g, i, none⟩ v) :=
  ⟨h.os, h.tape, h.output, by simpa using h.size, fun k hk => (Below.heap_setCell w' ⟨g, i, none⟩ v k hk).trans (h.block k hk)⟩
theorem Only.setCells {g : Nat} {w : World} : ∀ {vs : List Value} {o : Nat} {w' : World}, Only g w w' → Only g w (w'.setCells g o vs)
  | [], _, _, h => h
  | v :: _, o, _, h => (h.setCell o v).setCells
theorem Only.below {g B : Nat} {w w' : World} (h : Only g w w') (hB : B ≤ g) : Below B w w' := ⟨h.os, h.tape, h.output, Nat.le_of_eq h.size.symm, fun k hk => h.block k (by omega)⟩
theorem Only.box {g k : Nat} {cs : Array Value} {t : TypeId} {w w' : World} (h : Only g w w') (hb : Box k cs t w) (hne : k ≠ g) : Box k cs t w' := ⟨(h.block k hne).trans hb.row⟩
theorem Two.onlyP {p q : Nat} {w A B : World} (h : Two p q w A) (ho : Only p A B) : Two p q w B := ⟨(by rw [ho.size]; exact h.size), fun k hk h1 h2 => (ho.block k h1).trans (h.block k hk h1 h2)⟩
theorem Two.onlyQ {p q : Nat} {w A B : World} (h : Two p q w A) (ho : Only q A B) : Two p q w B := ⟨(by rw [ho.size]; exact h.size), fun k hk h1 h2 => (ho.block k h2).trans (h.block k hk h1 h2)⟩
def setA (cs : Array Value) (o : Nat) : List Value → Array Value
  | [] => cs
  | v :: r => setA (cs.setIfInBounds o v) (o + 1) r
theorem setA_eq : ∀ (vs : List Value) (o : Nat) (cs : Array Value), o + vs.length = cs.size → setA cs o vs = (cs.toList.take o ++ vs).toArray
  | [], o, cs, h => by
    have : cs.toList.take o = cs.toList := List.take_of_length_le (by simp at h ⊢; omega)
    simp [setA, this]
  | v :: r, o, cs, h => by
    unfold setA
    rw [setA_eq r (o + 1) _ (by simp at h ⊢; omega)]
    simp only [List.length_cons] at h
    have e : (cs.setIfInBounds o v).toList.take (o + 1) = cs.toList.take o ++ [v] := by
      rw [Array.toList_setIfInBounds, List.take_succ_eq_append_getElem (by simp; omega), List.take_set_of_le (Nat.le_refl _)]
      simp
    rw [e]
    simp
theorem Box.setCells {g : Nat} {t : TypeId} : ∀ {vs : List Value} {o : Nat} {cs : Array Value} {w : World}, Box g cs t w → Box g (setA cs o vs) t (w.setCells g o vs)
  | [], _, _, _, h => h
  | v :: _, o, _, _, h => (h.set o v).setCells
theorem Box.there {g : Nat} {t : TypeId} {cs : Array Value} {w : World} (h : Box g cs t w) : w.there g 0 cs.size := fun j hj => by
  rw [Nat.zero_add]
  exact ⟨by rw [h.cell j (Array.getElem?_eq_getElem hj)]; rfl, h.frozen j⟩
section
variable {P : Program} {Q : Exit → Act → World → Prop}
/-- a struct is stored into a box of its own -/
theorem wp_store_box {op : Oper} {a : Act} {w : World} {K : Act → World → Prop} {ty : TypeId} {x y : Operand} {g : Nat} {cells cs : Array Value} {t : TypeId} (hB : Box g cs t w) (ho : op.op = .store ty x y) (hx : a.eval x = .pointer (some ⟨g, 0, none⟩)) (hy : a.eval y = .agg cells)
    (hs : cells.size = cs.size) (hi : (P.info? ty).map (·.size) = some cells.size) (h1 : cells.all (·.oneCell') = true)
    (h : ∀ w', Box g cells t w' → Only g w w' → K (a.put op.dst undef) w') : op.wp P a w K Q :=
  wp_store_mid ty x y ho g 0 cells hx hy (by rw [hs]; exact hB.there) hi h1 (h _ (by have e := setA_eq cells.toList 0 cs (by simp [hs]); simp only [List.take_zero, List.nil_append, Array.toArray_toList] at e; have := hB.setCells (vs := cells.toList) (o := 0); rwa [e] at this) (Only.refl _ _).setCells)
end
theorem Box.thereAt {g o n : Nat} {t : TypeId} {cs : Array Value} {w : World} (h : Box g cs t w) (hn : o + n ≤ cs.size) : w.there g o n := fun j hj => by
  exact ⟨by rw [h.cell (o + j) (Array.getElem?_eq_getElem (by omega))]; rfl, h.frozen _⟩
section
variable {P : Program} {Q : Exit → Act → World → Prop}
theorem wp_store_at {op : Oper} {a : Act} {w : World} {K : Act → World → Prop} {ty : TypeId} {x y : Operand} {g o : Nat} {cells cs : Array Value} {t : TypeId} (hB : Box g cs t w) (ho : op.op = .store ty x y) (hx : a.eval x = .pointer (some ⟨g, o, none⟩)) (hy : a.eval y = .agg cells)
    (hs : o + cells.size ≤ cs.size) (hi : (P.info? ty).map (·.size) = some cells.size) (h1 : cells.all (·.oneCell') = true)
    (h : ∀ w', Box g (setA cs o cells.toList) t w' → Only g w w' → K (a.put op.dst undef) w') : op.wp P a w K Q :=
  wp_store_mid ty x y ho g o cells hx hy (hB.thereAt hs) hi h1 (h _ hB.setCells (Only.refl _ _).setCells)
theorem run_storeAt_int (w : World) (b o : Nat) (ty : TypeId) (k : IntKind) (n : Int) (ht : w.there b o 1) (hi : (P.info? ty).map (·.size) = some 1) :
    (Instr.storeAt ty (.pointer (some ⟨b, o, none⟩)) (.int k n)).run P w = .ok () (w.setCell ⟨b, o, none⟩ (.int k n)) := by
  have := run_storeCells_cells (P := P) b o [.int k n] 0 w (fun j hj => by simpa using (ht j (by simpa using hj)).1) (fun j hj => by simpa using (ht j (by simpa using hj)).2) (fun v hv => by simp at hv; subst hv; rfl)
  cases hq : P.info? ty with
  | none => simp [hq] at hi
  | some i =>
    have hs : i.size = 1 := by simp [hq] at hi; omega
    simp only [Nat.add_zero, World.setCells] at this
    simp only [Instr.storeAt, Instr.sureAddr, Sem.run_bind, Sem.run_pure, Result.andThen_ok]
    simp [storeVar, sizeOf, typeInfo, hq, Value.cells, hs, this]
theorem wp_store_int {op : Oper} {a : Act} {w : World} {K : Act → World → Prop} {ty : TypeId} {x y : Operand} {g o : Nat} {k : IntKind} {n : Int} {cs : Array Value} {t : TypeId} (hB : Box g cs t w) (ho : op.op = .store ty x y) (hx : a.eval x = .pointer (some ⟨g, o, none⟩)) (hy : a.eval y = .int k n)
    (hs : o < cs.size) (hi : (P.info? ty).map (·.size) = some 1) (h : ∀ w', Box g (cs.setIfInBounds o (.int k n)) t w' → Only g w w' → K (a.put op.dst undef) w') : op.wp P a w K Q := by
  unfold Oper.wp execOp
  simp only [ho, hx, hy, run_storeAt_int w g o ty k n (hB.thereAt (by omega)) hi, Sem.run_bind, Sem.run_pure, Result.andThen_ok]
  exact h _ (hB.set _ _) ((Only.refl _ _).setCell _ _)
end
/-- the integers of a list, as cells -/
def listNews (l : List Int) : List Value := l.map fun z => .int .i64 z
theorem listNews_snoc (l : List Int) (z : Int) : listNews (l ++ [z]) = listNews l ++ [.int .i64 z] := by simp [listNews]
theorem listNews_int (l : List Int) : listNews l = intNews l.length (fun i => l.getD i 0) := by
  apply List.ext_getElem
  · simp [listNews, intNews]
  · intro i h1 h2
    simp [listNews] at h1
    simp [listNews, intNews, List.getD_eq_getElem?_getD, List.getElem?_eq_getElem h1]
theorem owns_list {w : World} {base e : Nat} {v : Value} {l : List Int} (h : w.ownsRow base e 1 v l.length (listNews l)) : ∃ oa cap, v = .slice oa l.length cap ∧ IntsAt w oa l.length (fun i => l.getD i 0) ∧ ∀ a, oa = some a → base ≤ a.block := by
  rw [listNews_int] at h
  exact owns_ints h
theorem owns_made2 {w : World} {e : TypeId} (a c : Int) : (w.alloc (.cells #[.int .i64 a, .int .i64 c] e)).ownsRow w.heap.size e 1 (.slice (some ⟨w.heap.size, 0, none⟩) 2 2) 2 (listNews [a, c]) :=
  ⟨rfl, .inr ⟨w.heap.size, 2, #[.int .i64 a, .int .i64 c], rfl, Nat.le_refl _, heap_new rfl, Nat.le_refl _, by simp only [maxLen]; omega, rfl, rfl⟩⟩
end Go.Proofs.YtlofopnjjeeehaaDoor
