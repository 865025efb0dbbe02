/- append to a slice of the call's own: pairs of integers, and integers. -/
import Derived.Test.YthoefcpeagclbaaBox
import Derived.Laws.AppendOwnNone
import Derived.Deep.RegionHeld3
import Derived.Deep.RegionLaw
import Derived.Deep.DrawnRows
namespace Go.Proofs.Ythoefcpeagclbaa
open Go.RowKit
section
variable {P : Program}
/-- rows of two types are two blocks -/
theorem owns_other {w w' : World} {base e1 e2 s1 s2 n1 n2 : Nat} {v1 v2 : Value} {xs1 xs2 : List Value} (h1 : w.ownsRow base e1 s1 v1 n1 xs1) (h2 : w.ownsRow base e2 s2 v2 n2 xs2) (hne : e1 ≠ e2) (hg : w.grownBy w' v1.ownBlock) : w'.ownsRow base e2 s2 v2 n2 xs2 := by
  refine h2.kept hg ?_
  rcases h2.2 with ⟨rfl, _⟩ | ⟨g2, c2, cur2, rfl, hb2, hg2, _⟩
  · exact .inl rfl
  · rcases h1.2 with ⟨rfl, _⟩ | ⟨g1, c1, cur1, rfl, hb1, hg1, _⟩
    · right; simp [Value.ownBlock]
    · right
      simp only [Value.ownBlock, ne_eq, Option.some.injEq]
      intro e
      rw [e] at hg2
      rw [hg1] at hg2
      simp at hg2
      exact hne hg2.2
theorem wp_append_gen {o : Oper} {a : Act} {w : World} {K : Act → World → Prop} {Q : Exit → Act → World → Prop} (s x : Operand) (t : TypeId)
    (ho : o.op = .call { callee := .builtin .append, args := #[s, x], argTypes := #[t, t] })
    (base : Nat) (e : TypeId) (i : TypeInfo) (z : Value) (size bytes : Nat) (ht : P.underlying t = some (.slice e)) (hi : P.info? e = some i) (hz : i.zero = some z)
    (hsize : i.size = size) (hby : i.bytes = bytes) (hzs : z.cells.size = size) (hsz : 0 < size)
    (v : Value) (n : Nat) (xs : List Value) (hs : a.eval s = v) (hown : w.ownsRow base e size v n xs)
    (oa : Option Addr) (m c : Nat) (news : List Value) (hx : a.eval x = .slice oa m c) (hnil : oa = none → m = 0 ∧ c = 0) (hl : news.length = m * size) (hnews : ∀ ad, oa = some ad → ∀ j u, news[j]? = some u → w.cell? (ad.add j) = some u) (h1 : ∀ u ∈ news, u.oneCell' = true)
    (h63 : n + m ≤ maxLen) (hbytes : (n + m) * bytes ≤ 140737488355328) (hbase : base ≤ w.heap.size)
    (h : ∀ v' w', w'.ownsRow base e size v' (n + m) (xs ++ news) → w.grownBy w' v.ownBlock → K (a.put o.dst v') w') : o.wp P a w K Q := by
  cases oa with
  | none =>
    obtain ⟨rfl, rfl⟩ := hnil rfl
    have hrun := run_append_owned_none (P := P) (w := w) base t o.type e i size ht hi v n xs hown
    have e0 : news = [] := List.eq_nil_of_length_eq_zero (by omega)
    subst e0
    unfold Oper.wp
    simp [execOp, ho, resolve, invoke, builtin, hs, hx, hrun, Result.andThen]
    exact h v w (by simpa using hown) ⟨rfl, rfl, rfl, Nat.le_refl _, fun k _ _ => rfl⟩
  | some ad =>
    obtain ⟨v', w', hrun, hown', hgrow, -⟩ := run_append_own (P := P) (w := w) base t o.type e i z size bytes ht hi hz hsize hby hzs hsz v n xs hown ad m c news hl (hnews ad rfl) h1 h63 hbytes hbase
    unfold Oper.wp
    simp [execOp, ho, resolve, invoke, builtin, hs, hx, hrun, Result.andThen]
    exact h v' w' hown' hgrow
theorem step_append_gen {ops : Array Oper} {o : Oper} {a : Act} {w : World} {K : Act → World → Prop} {Q : Exit → Act → World → Prop} {E : Prop} (hgd : o.guard = none) (s x : Operand) (t : TypeId)
    (ho : o.op = .call { callee := .builtin .append, args := #[s, x], argTypes := #[t, t] })
    (base : Nat) (e : TypeId) (i : TypeInfo) (z : Value) (size bytes : Nat) (ht : P.underlying t = some (.slice e)) (hi : P.info? e = some i) (hz : i.zero = some z)
    (hsize : i.size = size) (hby : i.bytes = bytes) (hzs : z.cells.size = size) (hsz : 0 < size)
    (v : Value) (n : Nat) (xs : List Value) (hs : a.eval s = v) (oa : Option Addr) (m c : Nat) (news : List Value) (hx : a.eval x = .slice oa m c) (hown : w.ownsRow base e size v n xs)
    (hnil : oa = none → m = 0 ∧ c = 0) (hl : news.length = m * size) (hnews : ∀ ad, oa = some ad → ∀ j u, news[j]? = some u → w.cell? (ad.add j) = some u) (h1 : ∀ u ∈ news, u.oneCell' = true)
    (h63 : n + m ≤ maxLen) (hbytes : (n + m) * bytes ≤ 140737488355328) (hbase : base ≤ w.heap.size)
    (h : ∀ v' w', w'.ownsRow base e size v' (n + m) (xs ++ news) → w.grownBy w' v.ownBlock → K (a.put o.dst v') w') :
    if Region.wanted o (yielded ops a.tmps) = true then Oper.wp P o a w K Q else E := by
  have hw : Region.wanted o (yielded ops a.tmps) = true := by simp [Region.wanted, hgd]
  rw [if_pos hw]
  exact wp_append_gen s x t ho base e i z size bytes ht hi hz hsize hby hzs hsz v n xs hs hown oa m c news hx hnil hl hnews h1 h63 hbytes hbase h
theorem wpList_append_gen {ops : Array Oper} {rest : List Oper} {o : Oper} {a : Act} {w : World} {Q : Exit → Act → World → Prop} (hgd : o.guard = none) (s x : Operand) (t : TypeId)
    (ho : o.op = .call { callee := .builtin .append, args := #[s, x], argTypes := #[t, t] })
    (base : Nat) (e : TypeId) (i : TypeInfo) (z : Value) (size bytes : Nat) (ht : P.underlying t = some (.slice e)) (hi : P.info? e = some i) (hz : i.zero = some z)
    (hsize : i.size = size) (hby : i.bytes = bytes) (hzs : z.cells.size = size) (hsz : 0 < size)
    (v : Value) (n : Nat) (xs : List Value) (hs : a.eval s = v) (oa : Option Addr) (m c : Nat) (news : List Value) (hx : a.eval x = .slice oa m c) (hown : w.ownsRow base e size v n xs)
    (hnil : oa = none → m = 0 ∧ c = 0) (hl : news.length = m * size) (hnews : ∀ ad, oa = some ad → ∀ j u, news[j]? = some u → w.cell? (ad.add j) = some u) (h1 : ∀ u ∈ news, u.oneCell' = true)
    (h63 : n + m ≤ maxLen) (hbytes : (n + m) * bytes ≤ 140737488355328) (hbase : base ≤ w.heap.size)
    (h : ∀ v' w', w'.ownsRow base e size v' (n + m) (xs ++ news) → w.grownBy w' v.ownBlock → wpList P ops Q rest (a.put o.dst v') w') : wpList P ops Q (o :: rest) a w :=
  wpList_plain hgd fun _ hK => wp_append_gen s x t ho base e i z size bytes ht hi hz hsize hby hzs hsz v n xs hs hown oa m c news hx hnil hl hnews h1 h63 hbytes hbase fun v' w' h2 h3 => hK _ _ (h v' w' h2 h3)
end
theorem below_grown {w1 W W' : World} {v : Value} {e size n : Nat} {xs : List Value} (hb : Below w1.heap.size w1 W) (hown : W.ownsRow w1.heap.size e size v n xs) (hg : W.grownBy W' v.ownBlock) : Below w1.heap.size w1 W' := by
  refine ⟨hg.os.trans hb.os, hg.tape.trans hb.tape, hg.output.trans hb.output, Nat.le_trans hb.size hg.size, fun k hk => ?_⟩
  rw [hg.block k (Nat.lt_of_lt_of_le hk hb.size) (fun e => ?_)]
  · exact hb.block k hk
  · have := hown.lt k e.symm
    omega
/-- a slice that was just made, empty -/
theorem owns_empty {X : World} {base g e size : Nat} (hb : base ≤ g) (hg : X.heap[g]? = some (.cells #[] e)) : X.ownsRow base e size (.slice (some ⟨g, 0, none⟩) 0 0) 0 [] :=
  ⟨by simp, .inr ⟨g, 0, #[], rfl, hb, hg, Nat.le_refl _, Nat.zero_le _, by simp, by simp⟩⟩
theorem heap_new {W : World} {o : Obj} {g : Nat} (h : g = W.heap.size) : (W.alloc o).heap[g]? = some o := by
  subst h; exact World.alloc_heap_new W o
theorem heap_old {W : World} {o : Obj} {g : Nat} {q : Option Obj} (h : g < W.heap.size) (hq : W.heap[g]? = q) : (W.alloc o).heap[g]? = q := by
  rw [Below.heap_alloc _ _ _ h]; exact hq
theorem heap_grown {W W' : World} {v : Value} {g : Nat} {q : Option Obj} (hg : W.grownBy W' v.ownBlock) (h : g < W.heap.size) (hne : some g ≠ v.ownBlock) (hq : W.heap[g]? = q) : W'.heap[g]? = q := by
  rw [hg.block g h hne]; exact hq
theorem news_at {n : Nat} {f : Nat → Int} {j : Nat} {u : Value} (h : ((List.range n).map fun j => Value.int .i64 (f j))[j]? = some u) : j < n ∧ u = .int .i64 (f j) := by
  rw [List.getElem?_map] at h
  cases hj : (List.range n)[j]? with
  | none => rw [hj] at h; cases h
  | some k =>
    rw [hj] at h
    obtain ⟨hlt, e⟩ := List.getElem?_eq_some_iff.1 hj
    simp at hlt e
    subst e
    simp at h
    exact ⟨hlt, h.symm⟩
theorem add_flat {b off j : Nat} : (⟨b, off, none⟩ : Addr).add j = ⟨b, off + j, none⟩ := by
  unfold Addr.add
  split
  · rename_i h; subst h; rfl
  · rfl
theorem news_one {n : Nat} {f : Nat → Int} : ∀ u ∈ ((List.range n).map fun j => Value.int .i64 (f j)), u.oneCell' = true := fun u hu => by
  obtain ⟨j, _, rfl⟩ := List.mem_map.1 hu
  rfl
theorem owns_form {w : World} {base e size n : Nat} {v : Value} {xs : List Value} (h : w.ownsRow base e size v n xs) : ∃ oa cap, v = .slice oa n cap ∧ ∀ j u, xs[j]? = some u → ∃ g, oa = some ⟨g, 0, none⟩ ∧ g < w.heap.size ∧ w.cell? ⟨g, j, none⟩ = some u := by
  obtain ⟨hl, h⟩ := h
  rcases h with ⟨rfl, rfl⟩ | ⟨g, cap, cur, rfl, hb, hg, hn, hc, hcs, hx⟩
  · exact ⟨none, 0, rfl, fun j u hu => by
      have : xs = [] := List.eq_nil_of_length_eq_zero (by omega)
      subst this; cases hu⟩
  · refine ⟨_, cap, rfl, fun j u hu => ⟨g, rfl, ?_, ?_⟩⟩
    · rcases Nat.lt_or_ge g w.heap.size with h1 | h1
      · exact h1
      · rw [Array.getElem?_eq_none h1] at hg; cases hg
    · rw [cell_of_row w g j cur e (0, 0) hg]
      rw [← hx, List.getElem?_take] at hu
      split at hu
      · simpa using hu
      · cases hu
theorem news_get {n : Nat} {f : Nat → Int} {j : Nat} (hj : j < n) : ((List.range n).map fun j => Value.int .i64 (f j))[j]? = some (.int .i64 (f j)) := by
  rw [List.getElem?_map, List.getElem?_range hj]; rfl
/-- nothing has changed but block g, as far as blocks stood before -/
structure But (g : Nat) (w w' : World) : Prop where
  os : w'.os = w.os
  tape : w'.tape = w.tape
  output : w'.output = w.output
  size : w.heap.size ≤ w'.heap.size
  block : ∀ k, k < w.heap.size → k ≠ g → w'.heap[k]? = w.heap[k]?
theorem But.below {g B : Nat} {w0 w w' : World} (h : But g w w') (hg : B ≤ g) (hb : Below B w0 w) (hB : B ≤ w.heap.size) : Below B w0 w' :=
  ⟨h.os.trans hb.os, h.tape.trans hb.tape, h.output.trans hb.output, Nat.le_trans hb.size h.size, fun k hk => (h.block k (by omega) (by omega)).trans (hb.block k hk)⟩
theorem But.of_below {g : Nat} {w w' : World} (h : Below w.heap.size w w') : But g w w' := ⟨h.os, h.tape, h.output, h.size, fun k hk _ => h.block k hk⟩
theorem But.trans_below {g : Nat} {w w' w'' : World} (h : But g w w') (k : Below w'.heap.size w' w'') : But g w w'' :=
  ⟨k.os.trans h.os, k.tape.trans h.tape, k.output.trans h.output, Nat.le_trans h.size k.size, fun i hi hne => (k.block i (Nat.lt_of_lt_of_le hi h.size)).trans (h.block i hi hne)⟩
theorem But.setCell {g : Nat} {w w' : World} (h : But g w w') (i : Nat) (v : Value) : But g w (w'.setCell ⟨g, i, none⟩ v) :=
  ⟨h.os, h.tape, h.output, by simpa using h.size, fun k hk hne => (Below.heap_setCell w' ⟨g, i, none⟩ v k hne).trans (h.block k hk hne)⟩
theorem But.refl (g : Nat) (w : World) : But g w w := ⟨rfl, rfl, rfl, Nat.le_refl _, fun _ _ _ => rfl⟩
theorem But.drew {g : Nat} {w w' : World} (h : But g w w') : But g w w'.drew := ⟨h.os, h.tape, h.output, h.size, h.block⟩
theorem But.alloc {g : Nat} {w w' : World} (h : But g w w') (o : Obj) : But g w (w'.alloc o) := h.trans_below (below_alloc1 w' o)
theorem But.trans {g : Nat} {w w' w'' : World} (h : But g w w') (k : But g w' w'') : But g w w'' :=
  ⟨k.os.trans h.os, k.tape.trans h.tape, k.output.trans h.output, Nat.le_trans h.size k.size, fun i hi hne => (k.block i (Nat.lt_of_lt_of_le hi h.size) hne).trans (h.block i hi hne)⟩
theorem But.cell {g n i : Nat} {w w' : World} (h : But g w w') (hn : n < w.heap.size) (hne : n ≠ g) : w'.cell? ⟨n, i, none⟩ = w.cell? ⟨n, i, none⟩ := World.cell?_of_block (h.block n hn hne)
theorem owns_base {w : World} {base e size n : Nat} {oa : Option Addr} {cap : Nat} {xs : List Value} (h : w.ownsRow base e size (.slice oa n cap) n xs) (a : Addr) (ha : oa = some a) : base ≤ a.block := by
  subst ha
  obtain ⟨hl, h⟩ := h
  rcases h with ⟨h0, _⟩ | ⟨g, cap', cur, h0, hb, _⟩
  · cases h0
  · cases h0; exact hb
theorem news_blk2 {W : World} {g e : Nat} {x y u : Value} {j : Nat} (h : W.heap[g]? = some (.cells #[x, y] e (0, 0))) (hu : [x, y][j]? = some u) : W.cell? ((⟨g, 0, none⟩ : Addr).add j) = some u := by
  rw [add_flat, Nat.zero_add, cell_of_row W g j _ e (0, 0) h]
  simpa using hu
theorem cell_same {W W' : World} {g i : Nat} (h : W'.heap[g]? = W.heap[g]?) : W'.cell? ⟨g, i, none⟩ = W.cell? ⟨g, i, none⟩ := World.cell?_of_block h
theorem But.grown {g : Nat} {w W W' : World} {v : Value} {e size n : Nat} {xs : List Value} (h : But g w W) (hown : W.ownsRow w.heap.size e size v n xs) (hg : W.grownBy W' v.ownBlock) : But g w W' := by
  refine ⟨hg.os.trans h.os, hg.tape.trans h.tape, hg.output.trans h.output, Nat.le_trans h.size hg.size, fun k hk hne => ?_⟩
  rw [hg.block k (Nat.lt_of_lt_of_le hk h.size) (fun e9 => ?_)]
  · exact h.block k hk hne
  · have := hown.lt k e9.symm
    omega
theorem owns_set {w : World} {base e size n g i : Nat} {v u : Value} {xs : List Value} (h : w.ownsRow base e size v n xs) (hne : ∀ b, v.ownBlock = some b → b ≠ g) : (w.setCell ⟨g, i, none⟩ u).ownsRow base e size v n xs := by
  refine h.kept (row := some g) ⟨rfl, rfl, rfl, by simp, fun k _ hk => Below.heap_setCell w ⟨g, i, none⟩ u k (fun e9 => hk (by rw [show k = g from e9]))⟩ ?_
  rcases h.2 with ⟨rfl, _⟩ | ⟨g', c, cur, rfl, _⟩
  · exact .inl rfl
  · exact .inr (fun e9 => hne g' rfl (by simpa [Value.ownBlock] using e9))
theorem cell_set {W : World} {g i j : Nat} {v u : Value} (h : W.cell? ⟨g, i, none⟩ = some u) : (W.setCell ⟨g, i, none⟩ v).cell? ⟨g, j, none⟩ = if j = i then some v else W.cell? ⟨g, j, none⟩ := by
  split
  · rename_i e; subst e
    exact World.cell?_setCell_same W ⟨g, j, none⟩ v (by rw [h])
  · rename_i e
    exact World.cell?_setCell_other W _ _ v (fun h => e (by injection h with _ h2 _; exact h2.symm))
theorem But.box {g g' : Nat} {cs : Array Value} {t : TypeId} {w w' : World} (k : But g' w w') (h : Box g cs t w) (hne : g ≠ g') : Box g cs t w' := ⟨(k.block g h.lt hne).trans h.row⟩
/-- n pairs of integers lie in memory -/
def PairsAt (w : World) (oa : Option Addr) (n : Nat) (f g : Nat → Int) : Prop :=
  ∀ i, i < n → ∃ b off, oa = some ⟨b, off, none⟩ ∧ b < w.heap.size ∧ w.cell? ⟨b, off + i * 2, none⟩ = some (.int .i64 (f i)) ∧ w.cell? ⟨b, off + i * 2 + 1, none⟩ = some (.int .i64 (g i))
def pairNews (n : Nat) (f g : Nat → Int) : List Value := (List.range (n * 2)).map fun j => .int .i64 (if j % 2 = 0 then f (j / 2) else g (j / 2))
theorem pair_news_succ (n : Nat) (f g : Nat → Int) : pairNews (n + 1) f g = pairNews n f g ++ [.int .i64 (f n), .int .i64 (g n)] := by
  unfold pairNews
  rw [Nat.succ_mul, List.range_add, List.map_append]
  congr 1
  simp [List.range_succ_eq_map]
  rw [show (n * 2 + 1) / 2 = n by omega]
theorem pair_news_congr {n : Nat} {f g f' g' : Nat → Int} (h : ∀ i, i < n → f i = f' i ∧ g i = g' i) : pairNews n f g = pairNews n f' g' := by
  unfold pairNews
  refine List.map_congr_left fun j hj => ?_
  have := h (j / 2) (by have := List.mem_range.1 hj; omega)
  rw [this.1, this.2]
theorem owns_pairs {w : World} {base e n : Nat} {v : Value} {f g : Nat → Int} (h : w.ownsRow base e 2 v n (pairNews n f g)) : ∃ oa cap, v = .slice oa n cap ∧ PairsAt w oa n f g ∧ ∀ a, oa = some a → base ≤ a.block := by
  obtain ⟨oa, cap, rfl, hx⟩ := owns_form h
  refine ⟨oa, cap, rfl, fun i hi => ?_, owns_base h⟩
  have c0 := hx (i * 2) _ (news_get (by omega))
  have c1 := hx (i * 2 + 1) _ (news_get (by omega))
  obtain ⟨k, e, hk, h0⟩ := c0
  obtain ⟨k1, e1, _, h1⟩ := c1
  subst e
  cases e1
  rw [if_pos (by omega), show i * 2 / 2 = i by omega] at h0
  rw [if_neg (by omega), show (i * 2 + 1) / 2 = i by omega] at h1
  exact ⟨k, 0, rfl, hk, by rw [Nat.zero_add]; exact h0, by rw [Nat.zero_add]; exact h1⟩
/-- n integers lie in memory -/
def IntsAt (w : World) (oa : Option Addr) (n : Nat) (f : Nat → Int) : Prop :=
  ∀ i, i < n → ∃ b off, oa = some ⟨b, off, none⟩ ∧ b < w.heap.size ∧ w.cell? ⟨b, off + i, none⟩ = some (.int .i64 (f i))
theorem IntsAt.mono {w w' : World} {oa : Option Addr} {n : Nat} {f : Nat → Int} (h : IntsAt w oa n f) (hb : Below w.heap.size w w') : IntsAt w' oa n f := fun i hi => by
  obtain ⟨b, off, ha, hlt, h0⟩ := h i hi
  exact ⟨b, off, ha, Nat.lt_of_lt_of_le hlt hb.size, (hb.cell (p := ⟨b, off + i, none⟩) hlt).trans h0⟩
theorem PairsAt.mono {w w' : World} {oa : Option Addr} {n : Nat} {f g : Nat → Int} (h : PairsAt w oa n f g) (hb : Below w.heap.size w w') : PairsAt w' oa n f g := fun i hi => by
  obtain ⟨b, off, ha, hlt, h0, h1⟩ := h i hi
  exact ⟨b, off, ha, Nat.lt_of_lt_of_le hlt hb.size, (hb.cell (p := ⟨b, off + i * 2, none⟩) hlt).trans h0, (hb.cell (p := ⟨b, off + i * 2 + 1, none⟩) hlt).trans h1⟩
def intNews (n : Nat) (f : Nat → Int) : List Value := (List.range n).map fun j => .int .i64 (f j)
theorem int_news_succ (n : Nat) (f : Nat → Int) : intNews (n + 1) f = intNews n f ++ [.int .i64 (f n)] := by simp [intNews, List.range_succ]
theorem owns_ints {w : World} {base e n : Nat} {v : Value} {f : Nat → Int} (h : w.ownsRow base e 1 v n (intNews n f)) : ∃ oa cap, v = .slice oa n cap ∧ IntsAt w oa n f ∧ ∀ a, oa = some a → base ≤ a.block := by
  obtain ⟨oa, cap, rfl, hx⟩ := owns_form h
  refine ⟨oa, cap, rfl, fun i hi => ?_, owns_base h⟩
  obtain ⟨k, e, hk, h0⟩ := hx i _ (news_get hi)
  subst e
  exact ⟨k, 0, rfl, hk, by rw [Nat.zero_add]; exact h0⟩
theorem PairsAt.but {w w' : World} {oa : Option Addr} {n g : Nat} {f f' : Nat → Int} (h : PairsAt w oa n f f') (hb : ∀ a, oa = some a → a.block ≠ g) (k : But g w w') : PairsAt w' oa n f f' := fun i hi => by
  obtain ⟨b, off, rfl, hlt, h0, h1⟩ := h i hi
  have hne : b ≠ g := hb _ rfl
  exact ⟨b, off, rfl, Nat.lt_of_lt_of_le hlt k.size, (k.cell hlt hne).trans h0, (k.cell hlt hne).trans h1⟩
end Go.Proofs.Ythoefcpeagclbaa
