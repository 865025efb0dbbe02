/- append to a slice of the call's own, of a slice that came in, nil or not: as a step of a region that draws its order, and in a plain region. -/
import Derived.Test.YtckagcbjcpfjpaaQuad
import Derived.Test.YtckagcbjcpfjpaaP10
namespace Go.Proofs.Ytckagcbjcpfjpaa
open Go.RowKit
section
variable {P : Program}
theorem wp_append_gen {o : Oper} {a : Act} {w : World} {K : Act → World → Prop} {Q : Exit → Act → World → Prop} (s x : Operand) (t : TypeId)
    (ho : o.op = .call { callee := .builtin .append, args := #[s, x], argTypes := #[t, t] })
    (base : Nat) (e : TypeId) (i : TypeInfo) (z : Value) (size bytes : Nat) (ht : P.underlying t = some (.slice e)) (hi : P.info? e = some i) (hz : i.zero = some z)
    (hsize : i.size = size) (hby : i.bytes = bytes) (hzs : z.cells.size = size) (hsz : 0 < size)
    (v : Value) (n : Nat) (xs : List Value) (hs : a.eval s = v) (hown : w.ownsRow base e size v n xs)
    (oa : Option Addr) (m c : Nat) (news : List Value) (hx : a.eval x = .slice oa m c) (hnil : oa = none → m = 0 ∧ c = 0) (hl : news.length = m * size) (hnews : ∀ ad, oa = some ad → ∀ j u, news[j]? = some u → w.cell? (ad.add j) = some u) (h1 : ∀ u ∈ news, u.oneCell' = true)
    (h63 : n + m ≤ maxLen) (hbytes : (n + m) * bytes ≤ 140737488355328) (hbase : base ≤ w.heap.size)
    (h : ∀ v' w', w'.ownsRow base e size v' (n + m) (xs ++ news) → w.grownBy w' v.ownBlock → K (a.put o.dst v') w') : o.wp P a w K Q := by
  cases oa with
  | none =>
    obtain ⟨rfl, rfl⟩ := hnil rfl
    have hrun := run_append_owned_none (P := P) (w := w) base t o.type e i size ht hi v n xs hown
    have e0 : news = [] := List.eq_nil_of_length_eq_zero (by omega)
    subst e0
    unfold Oper.wp
    simp [execOp, ho, resolve, invoke, builtin, hs, hx, hrun, Result.andThen]
    exact h v w (by simpa using hown) ⟨rfl, rfl, rfl, Nat.le_refl _, fun k _ _ => rfl⟩
  | some ad =>
    obtain ⟨v', w', hrun, hown', hgrow, -⟩ := run_append_own (P := P) (w := w) base t o.type e i z size bytes ht hi hz hsize hby hzs hsz v n xs hown ad m c news hl (hnews ad rfl) h1 h63 hbytes hbase
    unfold Oper.wp
    simp [execOp, ho, resolve, invoke, builtin, hs, hx, hrun, Result.andThen]
    exact h v' w' hown' hgrow
theorem step_append_gen {ops : Array Oper} {o : Oper} {a : Act} {w : World} {K : Act → World → Prop} {Q : Exit → Act → World → Prop} {E : Prop} (hgd : o.guard = none) (s x : Operand) (t : TypeId)
    (ho : o.op = .call { callee := .builtin .append, args := #[s, x], argTypes := #[t, t] })
    (base : Nat) (e : TypeId) (i : TypeInfo) (z : Value) (size bytes : Nat) (ht : P.underlying t = some (.slice e)) (hi : P.info? e = some i) (hz : i.zero = some z)
    (hsize : i.size = size) (hby : i.bytes = bytes) (hzs : z.cells.size = size) (hsz : 0 < size)
    (v : Value) (n : Nat) (xs : List Value) (hs : a.eval s = v) (oa : Option Addr) (m c : Nat) (news : List Value) (hx : a.eval x = .slice oa m c) (hown : w.ownsRow base e size v n xs)
    (hnil : oa = none → m = 0 ∧ c = 0) (hl : news.length = m * size) (hnews : ∀ ad, oa = some ad → ∀ j u, news[j]? = some u → w.cell? (ad.add j) = some u) (h1 : ∀ u ∈ news, u.oneCell' = true)
    (h63 : n + m ≤ maxLen) (hbytes : (n + m) * bytes ≤ 140737488355328) (hbase : base ≤ w.heap.size)
    (h : ∀ v' w', w'.ownsRow base e size v' (n + m) (xs ++ news) → w.grownBy w' v.ownBlock → K (a.put o.dst v') w') :
    if Region.wanted o (yielded ops a.tmps) = true then Oper.wp P o a w K Q else E := by
  have hw : Region.wanted o (yielded ops a.tmps) = true := by simp [Region.wanted, hgd]
  rw [if_pos hw]
  exact wp_append_gen s x t ho base e i z size bytes ht hi hz hsize hby hzs hsz v n xs hs hown oa m c news hx hnil hl hnews h1 h63 hbytes hbase h
theorem wpList_append_gen {ops : Array Oper} {rest : List Oper} {o : Oper} {a : Act} {w : World} {Q : Exit → Act → World → Prop} (hgd : o.guard = none) (s x : Operand) (t : TypeId)
    (ho : o.op = .call { callee := .builtin .append, args := #[s, x], argTypes := #[t, t] })
    (base : Nat) (e : TypeId) (i : TypeInfo) (z : Value) (size bytes : Nat) (ht : P.underlying t = some (.slice e)) (hi : P.info? e = some i) (hz : i.zero = some z)
    (hsize : i.size = size) (hby : i.bytes = bytes) (hzs : z.cells.size = size) (hsz : 0 < size)
    (v : Value) (n : Nat) (xs : List Value) (hs : a.eval s = v) (oa : Option Addr) (m c : Nat) (news : List Value) (hx : a.eval x = .slice oa m c) (hown : w.ownsRow base e size v n xs)
    (hnil : oa = none → m = 0 ∧ c = 0) (hl : news.length = m * size) (hnews : ∀ ad, oa = some ad → ∀ j u, news[j]? = some u → w.cell? (ad.add j) = some u) (h1 : ∀ u ∈ news, u.oneCell' = true)
    (h63 : n + m ≤ maxLen) (hbytes : (n + m) * bytes ≤ 140737488355328) (hbase : base ≤ w.heap.size)
    (h : ∀ v' w', w'.ownsRow base e size v' (n + m) (xs ++ news) → w.grownBy w' v.ownBlock → wpList P ops Q rest (a.put o.dst v') w') : wpList P ops Q (o :: rest) a w :=
  wpList_plain hgd fun _ hK => wp_append_gen s x t ho base e i z size bytes ht hi hz hsize hby hzs hsz v n xs hs hown oa m c news hx hnil hl hnews h1 h63 hbytes hbase fun v' w' h2 h3 => hK _ _ (h v' w' h2 h3)
end
/-- one more at the end -/
theorem rule_news_succ (n : Nat) (r : Nat → Rule) : ruleNews (n + 1) r = ruleNews n r ++ [.int .i64 (r n).taps, .int .i64 (r n).most] := by
  unfold ruleNews
  rw [Nat.succ_mul, List.range_add, List.map_append]
  congr 1
  simp [List.range_succ_eq_map]
  rw [show (n * 2 + 1) / 2 = n by omega]
theorem rule_news_congr {n : Nat} {r r' : Nat → Rule} (h : ∀ i, i < n → r i = r' i) : ruleNews n r = ruleNews n r' := by
  unfold ruleNews
  refine List.map_congr_left fun j hj => ?_
  rw [h (j / 2) (by have := List.mem_range.1 hj; omega)]
/-- nothing has changed but block g, as far as blocks stood before -/
structure But (g : Nat) (w w' : World) : Prop where
  os : w'.os = w.os
  tape : w'.tape = w.tape
  output : w'.output = w.output
  size : w.heap.size ≤ w'.heap.size
  block : ∀ k, k < w.heap.size → k ≠ g → w'.heap[k]? = w.heap[k]?
theorem But.below {g B : Nat} {w0 w w' : World} (h : But g w w') (hg : B ≤ g) (hb : Below B w0 w) (hB : B ≤ w.heap.size) : Below B w0 w' :=
  ⟨h.os.trans hb.os, h.tape.trans hb.tape, h.output.trans hb.output, Nat.le_trans hb.size h.size, fun k hk => (h.block k (by omega) (by omega)).trans (hb.block k hk)⟩
theorem But.of_below {g : Nat} {w w' : World} (h : Below w.heap.size w w') : But g w w' := ⟨h.os, h.tape, h.output, h.size, fun k hk _ => h.block k hk⟩
theorem But.trans_below {g : Nat} {w w' w'' : World} (h : But g w w') (k : Below w'.heap.size w' w'') : But g w w'' :=
  ⟨k.os.trans h.os, k.tape.trans h.tape, k.output.trans h.output, Nat.le_trans h.size k.size, fun i hi hne => (k.block i (Nat.lt_of_lt_of_le hi h.size)).trans (h.block i hi hne)⟩
theorem But.setCell {g : Nat} {w w' : World} (h : But g w w') (i : Nat) (v : Value) : But g w (w'.setCell ⟨g, i, none⟩ v) :=
  ⟨h.os, h.tape, h.output, by simpa using h.size, fun k hk hne => (Below.heap_setCell w' ⟨g, i, none⟩ v k hne).trans (h.block k hk hne)⟩
theorem But.hblk {g' : Nat} {h : House} {ta ra : Option Addr} {tc rc g : Nat} {W W' : World} (k : But g' W W') (hh : HBlk h ta ra tc rc g W) (hne : g ≠ g') : HBlk h ta ra tc rc g W' := (k.block g (blk_lt hh) hne).trans hh
theorem But.refl (g : Nat) (w : World) : But g w w := ⟨rfl, rfl, rfl, Nat.le_refl _, fun _ _ _ => rfl⟩
theorem But.drew {g : Nat} {w w' : World} (h : But g w w') : But g w w'.drew := ⟨h.os, h.tape, h.output, h.size, h.block⟩
theorem But.alloc {g : Nat} {w w' : World} (h : But g w w') (o : Obj) : But g w (w'.alloc o) := h.trans_below (below_alloc1 w' o)
theorem But.trans {g : Nat} {w w' w'' : World} (h : But g w w') (k : But g w' w'') : But g w w'' :=
  ⟨k.os.trans h.os, k.tape.trans h.tape, k.output.trans h.output, Nat.le_trans h.size k.size, fun i hi hne => (k.block i (Nat.lt_of_lt_of_le hi h.size) hne).trans (h.block i hi hne)⟩
theorem But.cell {g n i : Nat} {w w' : World} (h : But g w w') (hn : n < w.heap.size) (hne : n ≠ g) : w'.cell? ⟨n, i, none⟩ = w.cell? ⟨n, i, none⟩ := World.cell?_of_block (h.block n hn hne)
theorem RulesAt.but {w w' : World} {oa : Option Addr} {n g : Nat} {t : Nat → Rule} (h : RulesAt w oa n t) (hb : ∀ a, oa = some a → a.block ≠ g) (k : But g w w') : RulesAt w' oa n t := fun i hi => by
  obtain ⟨b, off, rfl, hlt, h0, h1⟩ := h i hi
  have hne : b ≠ g := hb _ rfl
  exact ⟨b, off, rfl, Nat.lt_of_lt_of_le hlt k.size, (k.cell hlt hne).trans h0, (k.cell hlt hne).trans h1⟩
theorem TapsAt.but {w w' : World} {oa : Option Addr} {n g : Nat} {t : Nat → Tap} (h : TapsAt w oa n t) (hb : ∀ a, oa = some a → a.block ≠ g) (k : But g w w') : TapsAt w' oa n t := fun i hi => by
  obtain ⟨b, off, rfl, hlt, h0, h1, h2⟩ := h i hi
  have hne : b ≠ g := hb _ rfl
  exact ⟨b, off, rfl, Nat.lt_of_lt_of_le hlt k.size, (k.cell hlt hne).trans h0, (k.cell hlt hne).trans h1, (k.cell hlt hne).trans h2⟩
theorem owns_base {w : World} {base e size n : Nat} {oa : Option Addr} {cap : Nat} {xs : List Value} (h : w.ownsRow base e size (.slice oa n cap) n xs) (a : Addr) (ha : oa = some a) : base ≤ a.block := by
  subst ha
  obtain ⟨hl, h⟩ := h
  rcases h with ⟨h0, _⟩ | ⟨g, cap', cur, h0, hb, _⟩
  · cases h0
  · cases h0; exact hb
theorem owns_rules2 {w : World} {base n : Nat} {v : Value} {t : Nat → Rule} (h : w.ownsRow base 65 2 v n (ruleNews n t)) : ∃ oa cap, v = .slice oa n cap ∧ RulesAt w oa n t ∧ ∀ a, oa = some a → base ≤ a.block := by
  obtain ⟨oa, cap, rfl, hx⟩ := owns_rules h
  exact ⟨oa, cap, rfl, hx, owns_base h⟩
theorem owns_taps2 {w : World} {base n : Nat} {v : Value} {t : Nat → Tap} (h : w.ownsRow base 52 3 v n (tapNews n t)) : ∃ oa cap, v = .slice oa n cap ∧ TapsAt w oa n t ∧ ∀ a, oa = some a → base ≤ a.block := by
  obtain ⟨oa, cap, rfl, hx⟩ := owns_taps h
  exact ⟨oa, cap, rfl, hx, owns_base h⟩
theorem news_blk2 {W : World} {g e : Nat} {x y u : Value} {j : Nat} (h : W.heap[g]? = some (.cells #[x, y] e (0, 0))) (hu : [x, y][j]? = some u) : W.cell? ((⟨g, 0, none⟩ : Addr).add j) = some u := by
  rw [add_flat, Nat.zero_add, cell_of_row W g j _ e (0, 0) h]
  simpa using hu
theorem HBlk.frozen {h : House} {ta ra : Option Addr} {tc rc g : Nat} {W : World} (k : HBlk h ta ra tc rc g W) (i : Nat) : W.frozen? ⟨g, i, none⟩ = false := by
  unfold HBlk at k
  simp [World.frozen?, k]
theorem strict_news {w : World} {base : Nat} {v : Value} {h : House} {q : Rule} (k : w.ownsRow base 65 2 v (h.nr + 1) (ruleNews h.nr h.r ++ [.int .i64 q.taps, .int .i64 q.most])) : w.ownsRow base 65 2 v (h.nr + 1) (ruleNews (h.nr + 1) (h.strict q).r) := by
  rw [rule_news_succ]
  have e1 : (h.strict q).r h.nr = q := by simp [House.strict]
  have e2 : ruleNews h.nr (h.strict q).r = ruleNews h.nr h.r := rule_news_congr fun i hi => by simp [House.strict, hi]
  rw [e1, e2]
  exact k
theorem But.hblk_self {g : Nat} {h : House} {ta ra : Option Addr} {tc rc : Nat} {W W' : World} (_ : But g W W') (hb : Below W.heap.size W W') (hh : HBlk h ta ra tc rc g W) : HBlk h ta ra tc rc g W' := hh.below hb
theorem cell_same {W W' : World} {g i : Nat} (h : W'.heap[g]? = W.heap[g]?) : W'.cell? ⟨g, i, none⟩ = W.cell? ⟨g, i, none⟩ := World.cell?_of_block h
theorem But.grown {g : Nat} {w W W' : World} {v : Value} {e size n : Nat} {xs : List Value} (h : But g w W) (hown : W.ownsRow w.heap.size e size v n xs) (hg : W.grownBy W' v.ownBlock) : But g w W' := by
  refine ⟨hg.os.trans h.os, hg.tape.trans h.tape, hg.output.trans h.output, Nat.le_trans h.size hg.size, fun k hk hne => ?_⟩
  rw [hg.block k (Nat.lt_of_lt_of_le hk h.size) (fun e9 => ?_)]
  · exact h.block k hk hne
  · have := hown.lt k e9.symm
    omega
theorem owns_set {w : World} {base e size n g i : Nat} {v u : Value} {xs : List Value} (h : w.ownsRow base e size v n xs) (hne : ∀ b, v.ownBlock = some b → b ≠ g) : (w.setCell ⟨g, i, none⟩ u).ownsRow base e size v n xs := by
  refine h.kept (row := some g) ⟨rfl, rfl, rfl, by simp, fun k _ hk => Below.heap_setCell w ⟨g, i, none⟩ u k (fun e9 => hk (by rw [show k = g from e9]))⟩ ?_
  rcases h.2 with ⟨rfl, _⟩ | ⟨g', c, cur, rfl, _⟩
  · exact .inl rfl
  · exact .inr (fun e9 => hne g' rfl (by simpa [Value.ownBlock] using e9))
/-- the box of the house whose rules are put in anew -/
def VBlk (h : House) (ta : Option Addr) (tc g : Nat) (v : Value) (W : World) : Prop := W.heap[g]? = some (.cells #[.int .i64 h.head, .int .i64 h.drip, .slice ta h.nt tc, v] 25 (0, 0))
theorem VBlk.cell {h : House} {ta : Option Addr} {tc g : Nat} {v : Value} {W : World} (k : VBlk h ta tc g v W) : W.cell? ⟨g, 3, none⟩ = some v := (cell_of_row W g 3 _ 25 (0, 0) k).trans rfl
theorem VBlk.frozen {h : House} {ta : Option Addr} {tc g : Nat} {v : Value} {W : World} (k : VBlk h ta tc g v W) : W.frozen? ⟨g, 3, none⟩ = false := by
  unfold VBlk at k
  simp [World.frozen?, k]
theorem VBlk.set {h : House} {ta : Option Addr} {tc g : Nat} {v u : Value} {W : World} (k : VBlk h ta tc g v W) : VBlk h ta tc g u (W.setCell ⟨g, 3, none⟩ u) := by
  unfold VBlk at k ⊢
  simp [World.setCell, Array.getElem?_modify, k]
theorem HBlk.vset {h : House} {ta ra : Option Addr} {tc rc g : Nat} {W : World} (k : HBlk h ta ra tc rc g W) (u : Value) : VBlk h ta tc g u (W.setCell ⟨g, 3, none⟩ u) := by
  unfold HBlk at k
  unfold VBlk
  simp [World.setCell, Array.getElem?_modify, k]
theorem turn_news {w : World} {base j : Nat} {v : Value} {h : House} {z i : Nat} (hi : i = (j + z) % h.nr) (hj : j < h.nr) (k : w.ownsRow base 65 2 v (j + 1) (ruleNews j (h.turned z).r ++ [.int .i64 (h.r i).taps, .int .i64 (h.r i).most])) : w.ownsRow base 65 2 v (j + 1) (ruleNews (j + 1) (h.turned z).r) := by
  rw [rule_news_succ]
  have e1 : (h.turned z).r j = h.r i := by simp [House.turned, hj, hi]
  rw [e1]
  exact k
theorem turn_last {w : World} {base : Nat} {v : Value} {h : House} {z : Nat} (k : w.ownsRow base 65 2 v (h.nr + 1) (ruleNews h.nr (h.turned z).r ++ [.int .i64 (h.r 0).taps, .int .i64 (h.r 0).most])) : w.ownsRow base 65 2 v (h.nr + 1) (ruleNews (h.nr + 1) (h.turned z).r) := by
  rw [rule_news_succ]
  have e1 : (h.turned z).r h.nr = h.r 0 := by simp [House.turned]
  rw [e1]
  exact k
theorem turned_blk {h : House} {ta oa : Option Addr} {tc g z j c : Nat} {W : World} (e : (h.turned z).nr = j) (k : VBlk h ta tc g (.slice oa j c) W) : HBlk (h.turned z) ta oa tc c g W := by
  unfold HBlk
  rw [e]
  exact k
/-- a block of taps of the call's own -/
structure TRow (g n : Nat) (t : Nat → Tap) (W : World) : Prop where
  at_ : TapsAt W (some ⟨g, 0, none⟩) n t
  blk : ∃ cur, W.heap[g]? = some (.cells cur 52 (0, 0))
theorem TRow.lt {g n : Nat} {t : Nat → Tap} {W : World} (k : TRow g n t W) : g < W.heap.size := by
  obtain ⟨cur, h⟩ := k.blk
  exact blk_lt h
theorem TRow.frozen {g n : Nat} {t : Nat → Tap} {W : World} (k : TRow g n t W) (i : Nat) : W.frozen? ⟨g, i, none⟩ = false := by
  obtain ⟨cur, h⟩ := k.blk
  simp [World.frozen?, h]
theorem TRow.cells {g n : Nat} {t : Nat → Tap} {W : World} (k : TRow g n t W) {i : Nat} (hi : i < n) : W.cell? ⟨g, i * 3, none⟩ = some (.int .i64 (t i).lo) ∧ W.cell? ⟨g, i * 3 + 1, none⟩ = some (.int .i64 (t i).hi) ∧ W.cell? ⟨g, i * 3 + 2, none⟩ = some (.int .i64 (t i).need) := by
  obtain ⟨b, off, e, _, h0, h1, h2⟩ := k.at_ i hi
  cases e
  rw [Nat.zero_add] at h0 h1 h2
  exact ⟨h0, h1, h2⟩
theorem TRow.mk_ {g n : Nat} {t : Nat → Tap} {W : World} (hg : g < W.heap.size) (h : ∀ i, i < n → W.cell? ⟨g, i * 3, none⟩ = some (.int .i64 (t i).lo) ∧ W.cell? ⟨g, i * 3 + 1, none⟩ = some (.int .i64 (t i).hi) ∧ W.cell? ⟨g, i * 3 + 2, none⟩ = some (.int .i64 (t i).need)) (hb : ∃ cur, W.heap[g]? = some (.cells cur 52 (0, 0))) : TRow g n t W :=
  ⟨fun i hi => ⟨g, 0, rfl, hg, by rw [Nat.zero_add]; exact (h i hi).1, by rw [Nat.zero_add]; exact (h i hi).2.1, by rw [Nat.zero_add]; exact (h i hi).2.2⟩, hb⟩
theorem TRow.same {g n : Nat} {t : Nat → Tap} {W W' : World} (k : TRow g n t W) (h : W'.heap[g]? = W.heap[g]?) : TRow g n t W' := by
  obtain ⟨cur, hc⟩ := k.blk
  refine TRow.mk_ (blk_lt (h.trans hc)) (fun i hi => ?_) ⟨cur, h.trans hc⟩
  obtain ⟨h0, h1, h2⟩ := k.cells hi
  exact ⟨(cell_same h).trans h0, (cell_same h).trans h1, (cell_same h).trans h2⟩
theorem cell_set {W : World} {g i j : Nat} {v u : Value} (h : W.cell? ⟨g, i, none⟩ = some u) : (W.setCell ⟨g, i, none⟩ v).cell? ⟨g, j, none⟩ = if j = i then some v else W.cell? ⟨g, j, none⟩ := by
  split
  · rename_i e; subst e
    exact World.cell?_setCell_same W ⟨g, j, none⟩ v (by rw [h])
  · rename_i e
    exact World.cell?_setCell_other W _ _ v (fun h => e (by injection h with _ h2 _; exact h2.symm))
theorem set_blk {W : World} {g i : Nat} {v : Value} {cur : Array Value} {e : TypeId} (h : W.heap[g]? = some (.cells cur e (0, 0))) : (W.setCell ⟨g, i, none⟩ v).heap[g]? = some (.cells (cur.setIfInBounds i v) e (0, 0)) := by
  simp [World.setCell, Array.getElem?_modify, h]
theorem TRow.setHi {g n : Nat} {t : Nat → Tap} {W : World} (k : TRow g n t W) {i : Nat} (hi : i < n) (x : Int) : TRow g n (fun j => if j = i then ⟨(t i).lo, x, (t i).need⟩ else t j) (W.setCell ⟨g, i * 3 + 1, none⟩ (.int .i64 x)) := by
  obtain ⟨cur, hc⟩ := k.blk
  have hx := (k.cells hi).2.1
  refine TRow.mk_ (by simpa using blk_lt hc) (fun j hj => ?_) ⟨_, set_blk hc⟩
  rw [cell_set hx, cell_set hx, cell_set hx]
  obtain ⟨h0, h1, h2⟩ := k.cells hj
  rw [if_neg (show ¬ j * 3 = i * 3 + 1 by omega), if_neg (show ¬ j * 3 + 2 = i * 3 + 1 by omega)]
  by_cases e : j = i
  · subst e
    simp only [if_true]
    exact ⟨h0, trivial, h2⟩
  · rw [if_neg (show ¬ j * 3 + 1 = i * 3 + 1 by omega)]
    simp only [if_neg e]
    exact ⟨h0, h1, h2⟩
theorem TRow.setNeed {g n : Nat} {t : Nat → Tap} {W : World} (k : TRow g n t W) {i : Nat} (hi : i < n) (x : Int) : TRow g n (fun j => if j = i then ⟨(t i).lo, (t i).hi, x⟩ else t j) (W.setCell ⟨g, i * 3 + 2, none⟩ (.int .i64 x)) := by
  obtain ⟨cur, hc⟩ := k.blk
  have hx := (k.cells hi).2.2
  refine TRow.mk_ (by simpa using blk_lt hc) (fun j hj => ?_) ⟨_, set_blk hc⟩
  rw [cell_set hx, cell_set hx, cell_set hx]
  obtain ⟨h0, h1, h2⟩ := k.cells hj
  rw [if_neg (show ¬ j * 3 = i * 3 + 2 by omega), if_neg (show ¬ j * 3 + 1 = i * 3 + 2 by omega)]
  by_cases e : j = i
  · subst e
    simp only [if_true]
    exact ⟨h0, h1, trivial⟩
  · rw [if_neg (show ¬ j * 3 + 2 = i * 3 + 2 by omega)]
    simp only [if_neg e]
    exact ⟨h0, h1, h2⟩
theorem owns_trow {w : World} {base n : Nat} {v : Value} {t : Nat → Tap} (h : w.ownsRow base 52 3 v n (tapNews n t)) (hn : 0 < n) : ∃ g cap, v = .slice (some ⟨g, 0, none⟩) n cap ∧ base ≤ g ∧ TRow g n t w := by
  obtain ⟨oa, cap, rfl, hx, hb⟩ := owns_taps2 h
  rcases h.2 with ⟨h0, h1⟩ | ⟨g', c', cur, h0, _, hg, _⟩
  · omega
  · cases h0
    exact ⟨g', cap, rfl, hb _ rfl, hx, cur, hg⟩
theorem less_fun (h : House) (k by9 : Nat) : (fun j => if j = k then (⟨((fun j => if j = k then (⟨(h.t k).lo, max (h.t k).lo ((h.t k).hi - by9), (h.t k).need⟩ : Tap) else h.t j) k).lo, ((fun j => if j = k then (⟨(h.t k).lo, max (h.t k).lo ((h.t k).hi - by9), (h.t k).need⟩ : Tap) else h.t j) k).hi, max 0 ((h.t k).need - (by9 : Int) % 7)⟩ : Tap) else (fun j => if j = k then (⟨(h.t k).lo, max (h.t k).lo ((h.t k).hi - by9), (h.t k).need⟩ : Tap) else h.t j) j) = (h.less k by9).t := by
  funext j
  by_cases e : j = k
  · simp [House.less, lessTap, e]
  · simp [House.less, e]
theorem TRow.but {g' g n : Nat} {t : Nat → Tap} {W W' : World} (k : But g' W W') (h : TRow g n t W) (hne : g ≠ g') : TRow g n t W' := h.same (k.block g h.lt hne)
theorem HBlk.but {g' : Nat} {h : House} {ta ra : Option Addr} {tc rc g : Nat} {W W' : World} (k : But g' W W') (hh : HBlk h ta ra tc rc g W) (hne : g ≠ g') : HBlk h ta ra tc rc g W' := k.hblk hh hne
theorem HBlk.set0 {h : House} {ta ra : Option Addr} {tc rc g : Nat} {W : World} (k : HBlk h ta ra tc rc g W) (n : Int) : HBlk { h with head := n } ta ra tc rc g (W.setCell ⟨g, 0, none⟩ (.int .i64 n)) := by
  unfold HBlk at k ⊢
  simp [World.setCell, Array.getElem?_modify, k]
theorem HBlk.set2 {h : House} {ta ra : Option Addr} {tc rc g : Nat} {W : World} (k : HBlk h ta ra tc rc g W) (oa : Option Addr) (n c : Nat) (t : Nat → Tap) : HBlk { h with nt := n, t := t } oa ra c rc g (W.setCell ⟨g, 2, none⟩ (.slice oa n c)) := by
  unfold HBlk at k ⊢
  simp [World.setCell, Array.getElem?_modify, k]
theorem HBlk.set3 {h : House} {ta ra : Option Addr} {tc rc g : Nat} {W : World} (k : HBlk h ta ra tc rc g W) (oa : Option Addr) (n c : Nat) (r : Nat → Rule) : HBlk { h with nr := n, r := r } ta oa tc c g (W.setCell ⟨g, 3, none⟩ (.slice oa n c)) := by
  unfold HBlk at k ⊢
  simp [World.setCell, Array.getElem?_modify, k]
theorem MB.same {m : Meter} {n : Nat} {W W' : World} (k : MB m n W) (h : W'.heap[n]? = W.heap[n]?) : MB m n W' := by
  refine ⟨(cell_same h).trans k.a0, (cell_same h).trans k.a1, (cell_same h).trans k.a2, (cell_same h).trans k.a3, ?_⟩
  rw [Array.getElem?_eq_getElem k.ls] at h
  exact blk_lt h
theorem TB.same {x y : Int} {n : Nat} {W W' : World} (k : TB x y n W) (h : W'.heap[n]? = W.heap[n]?) : TB x y n W' := by
  refine ⟨(cell_same h).trans k.a0, (cell_same h).trans k.a1, ?_⟩
  rw [Array.getElem?_eq_getElem k.ls] at h
  exact blk_lt h
/-- number k of a list of houses, each of which is easier than h -/
def ThreeAt (h : House) (gl k : Nat) (W : World) : Prop :=
  ∃ (x : House) (ta ra : Option Addr) (tc rc : Nat), gl < W.heap.size ∧ W.cell? ⟨gl, k * 4, none⟩ = some (.int .i64 x.head) ∧ W.cell? ⟨gl, k * 4 + 1, none⟩ = some (.int .i64 x.drip) ∧ W.cell? ⟨gl, k * 4 + 2, none⟩ = some (.slice ta x.nt tc) ∧ W.cell? ⟨gl, k * 4 + 3, none⟩ = some (.slice ra x.nr rc) ∧
    TapsAt W ta x.nt x.t ∧ RulesAt W ra x.nr x.r ∧ Easier x h ∧ x.nt ≤ 1000000 ∧ x.nr ≤ 1000000
theorem ThreeAt.mono {h : House} {gl k : Nat} {W W' : World} (q : ThreeAt h gl k W) (hb : Below W.heap.size W W') : ThreeAt h gl k W' := by
  obtain ⟨x, ta, ra, tc, rc, hl, q0, q1, q2, q3, hT, hR, hE, n1, n2⟩ := q
  exact ⟨x, ta, ra, tc, rc, Nat.lt_of_lt_of_le hl hb.size, (hb.cell (p := ⟨gl, k * 4, none⟩) hl).trans q0, (hb.cell (p := ⟨gl, k * 4 + 1, none⟩) hl).trans q1, (hb.cell (p := ⟨gl, k * 4 + 2, none⟩) hl).trans q2, (hb.cell (p := ⟨gl, k * 4 + 3, none⟩) hl).trans q3, hT.mono hb, hR.mono hb, hE, n1, n2⟩
theorem peakR_valid {h : House} {p1 p2 : Int} {own pe : Nat} (hv : h.valid = true) (hp : (p1, p2, own, pe) = h.peakR) : pe = 0 := by
  unfold House.peakR at hp
  rw [if_pos hv] at hp
  simp only [Prod.mk.injEq] at hp
  exact hp.2.2.2
end Go.Proofs.Ytckagcbjcpfjpaa
