/- A slice made anew and appended to once, as steps of a region that draws its order. -/
import Derived.Test.YtckagcbjcpfjpaaP9
import Derived.Laws.AppendOwnNone
import Derived.Deep.RegionHeld3
namespace Go.Proofs.Ytckagcbjcpfjpaa
open Go.RowKit
section
variable {P : Program}
/-- rows of two types are two blocks -/
theorem owns_other {w w' : World} {base e1 e2 s1 s2 n1 n2 : Nat} {v1 v2 : Value} {xs1 xs2 : List Value} (h1 : w.ownsRow base e1 s1 v1 n1 xs1) (h2 : w.ownsRow base e2 s2 v2 n2 xs2) (hne : e1 ≠ e2) (hg : w.grownBy w' v1.ownBlock) : w'.ownsRow base e2 s2 v2 n2 xs2 := by
  refine h2.kept hg ?_
  rcases h2.2 with ⟨rfl, _⟩ | ⟨g2, c2, cur2, rfl, hb2, hg2, _⟩
  · exact .inl rfl
  · rcases h1.2 with ⟨rfl, _⟩ | ⟨g1, c1, cur1, rfl, hb1, hg1, _⟩
    · right; simp [Value.ownBlock]
    · right
      simp only [Value.ownBlock, ne_eq, Option.some.injEq]
      intro e
      rw [e] at hg2
      rw [hg1] at hg2
      simp at hg2
      exact hne hg2.2
/-- append, one step of a region that draws: what is appended came in, nil or not -/
theorem step_append_copy {ops : Array Oper} {o : Oper} {a : Act} {w : World} {K : Act → World → Prop} {Q : Exit → Act → World → Prop} {E : Prop} (hgd : o.guard = none) (s x : Operand) (t : TypeId)
    (ho : o.op = .call { callee := .builtin .append, args := #[s, x], argTypes := #[t, t] })
    (base : Nat) (e : TypeId) (i : TypeInfo) (z : Value) (size bytes : Nat) (ht : P.underlying t = some (.slice e)) (hi : P.info? e = some i) (hz : i.zero = some z)
    (hsize : i.size = size) (hby : i.bytes = bytes) (hzs : z.cells.size = size) (hsz : 0 < size)
    (v : Value) (hs : a.eval s = v) (hown : w.ownsRow base e size v 0 [])
    (oa : Option Addr) (m c : Nat) (news : List Value) (hx : a.eval x = .slice oa m c) (hnil : oa = none → m = 0 ∧ c = 0) (hl : news.length = m * size) (hnews : ∀ ad, oa = some ad → ∀ j u, news[j]? = some u → w.cell? (ad.add j) = some u) (h1 : ∀ u ∈ news, u.oneCell' = true)
    (h63 : m ≤ maxLen) (hbytes : m * bytes ≤ 140737488355328) (hbase : base ≤ w.heap.size)
    (h : ∀ v' w', w'.ownsRow base e size v' m news → w.grownBy w' v.ownBlock → K (a.put o.dst v') w') :
    if Region.wanted o (yielded ops a.tmps) = true then Oper.wp P o a w K Q else E := by
  have hw : Region.wanted o (yielded ops a.tmps) = true := by simp [Region.wanted, hgd]
  rw [if_pos hw]
  cases oa with
  | none =>
    obtain ⟨rfl, rfl⟩ := hnil rfl
    have hrun := run_append_owned_none (P := P) (w := w) base t o.type e i size ht hi v 0 [] hown
    have e0 : news = [] := List.eq_nil_of_length_eq_zero (by omega)
    subst e0
    unfold Oper.wp
    simp [execOp, ho, resolve, invoke, builtin, hs, hx, hrun, Result.andThen]
    exact h v w hown ⟨rfl, rfl, rfl, Nat.le_refl _, fun k _ _ => rfl⟩
  | some ad =>
    obtain ⟨v', w', hrun, hown', hgrow, -⟩ := run_append_own (P := P) (w := w) base t o.type e i z size bytes ht hi hz hsize hby hzs hsz v 0 [] hown ad m c news hl (hnews ad rfl) h1 (by omega) (by rw [Nat.zero_add]; exact hbytes) hbase
    unfold Oper.wp
    simp [execOp, ho, resolve, invoke, builtin, hs, hx, hrun, Result.andThen]
    exact h v' w' (by simpa using hown') hgrow
/-- the same, appended to a slice that was just made -/
theorem step_append_new {ops : Array Oper} {o : Oper} {a : Act} {w : World} {K : Act → World → Prop} {Q : Exit → Act → World → Prop} {E : Prop} (hgd : o.guard = none) (s x : Operand) (t : TypeId)
    (ho : o.op = .call { callee := .builtin .append, args := #[s, x], argTypes := #[t, t] })
    (base : Nat) (e : TypeId) (i : TypeInfo) (z : Value) (size bytes : Nat) (ht : P.underlying t = some (.slice e)) (hi : P.info? e = some i) (hz : i.zero = some z)
    (hsize : i.size = size) (hby : i.bytes = bytes) (hzs : z.cells.size = size) (hsz : 0 < size)
    (g : Nat) (hs : a.eval s = .slice (some ⟨g, 0, none⟩) 0 0) (oa : Option Addr) (m c : Nat) (news : List Value) (hx : a.eval x = .slice oa m c) (hown : w.ownsRow base e size (.slice (some ⟨g, 0, none⟩) 0 0) 0 []) (hnil : oa = none → m = 0 ∧ c = 0) (hl : news.length = m * size) (hnews : ∀ ad, oa = some ad → ∀ j u, news[j]? = some u → w.cell? (ad.add j) = some u) (h1 : ∀ u ∈ news, u.oneCell' = true)
    (h63 : m ≤ maxLen) (hbytes : m * bytes ≤ 140737488355328) (hbase : base ≤ w.heap.size)
    (h : ∀ v' w', w'.ownsRow base e size v' m news → w.grownBy w' (Value.slice (some ⟨g, 0, none⟩) 0 0).ownBlock → K (a.put o.dst v') w') :
    if Region.wanted o (yielded ops a.tmps) = true then Oper.wp P o a w K Q else E :=
  step_append_copy hgd s x t ho base e i z size bytes ht hi hz hsize hby hzs hsz _ hs hown oa m c news hx hnil hl hnews h1 h63 hbytes hbase h
end
theorem below_grown {w1 W W' : World} {v : Value} {e size n : Nat} {xs : List Value} (hb : Below w1.heap.size w1 W) (hown : W.ownsRow w1.heap.size e size v n xs) (hg : W.grownBy W' v.ownBlock) : Below w1.heap.size w1 W' := by
  refine ⟨hg.os.trans hb.os, hg.tape.trans hb.tape, hg.output.trans hb.output, Nat.le_trans hb.size hg.size, fun k hk => ?_⟩
  rw [hg.block k (Nat.lt_of_lt_of_le hk hb.size) (fun e => ?_)]
  · exact hb.block k hk
  · have := hown.lt k e.symm
    omega
/-- a slice that was just made, empty -/
theorem owns_empty {X : World} {base g e size : Nat} (hb : base ≤ g) (hg : X.heap[g]? = some (.cells #[] e)) : X.ownsRow base e size (.slice (some ⟨g, 0, none⟩) 0 0) 0 [] :=
  ⟨by simp, .inr ⟨g, 0, #[], rfl, hb, hg, Nat.le_refl _, Nat.zero_le _, by simp, by simp⟩⟩
theorem heap_new {W : World} {o : Obj} {g : Nat} (h : g = W.heap.size) : (W.alloc o).heap[g]? = some o := by
  subst h; exact World.alloc_heap_new W o
theorem heap_old {W : World} {o : Obj} {g : Nat} {q : Option Obj} (h : g < W.heap.size) (hq : W.heap[g]? = q) : (W.alloc o).heap[g]? = q := by
  rw [Below.heap_alloc _ _ _ h]; exact hq
theorem heap_grown {W W' : World} {v : Value} {g : Nat} {q : Option Obj} (hg : W.grownBy W' v.ownBlock) (h : g < W.heap.size) (hne : some g ≠ v.ownBlock) (hq : W.heap[g]? = q) : W'.heap[g]? = q := by
  rw [hg.block g h hne]; exact hq
/-- the cells of n structs, by their places -/
def tapNews (n : Nat) (t : Nat → Tap) : List Value := (List.range (n * 3)).map fun j => .int .i64 (if j % 3 = 0 then (t (j / 3)).lo else if j % 3 = 1 then (t (j / 3)).hi else (t (j / 3)).need)
def ruleNews (n : Nat) (t : Nat → Rule) : List Value := (List.range (n * 2)).map fun j => .int .i64 (if j % 2 = 0 then (t (j / 2)).taps else (t (j / 2)).most)
def meterNews (n : Nat) (t : Nat → Meter) : List Value := (List.range (n * 4)).map fun j => .int .i64 (if j % 4 = 0 then (t (j / 4)).start else if j % 4 = 1 then (t (j / 4)).full else if j % 4 = 2 then (t (j / 4)).loss else (t (j / 4)).price)
theorem news_at {n : Nat} {f : Nat → Int} {j : Nat} {u : Value} (h : ((List.range n).map fun j => Value.int .i64 (f j))[j]? = some u) : j < n ∧ u = .int .i64 (f j) := by
  rw [List.getElem?_map] at h
  cases hj : (List.range n)[j]? with
  | none => rw [hj] at h; cases h
  | some k =>
    rw [hj] at h
    obtain ⟨hlt, e⟩ := List.getElem?_eq_some_iff.1 hj
    simp at hlt e
    subst e
    simp at h
    exact ⟨hlt, h.symm⟩
theorem add_flat {b off j : Nat} : (⟨b, off, none⟩ : Addr).add j = ⟨b, off + j, none⟩ := by
  unfold Addr.add
  split
  · rename_i h; subst h; rfl
  · rfl
theorem taps_news {w : World} {oa : Option Addr} {n : Nat} {t : Nat → Tap} (hT : TapsAt w oa n t) (ad : Addr) (he : oa = some ad) : ∀ j u, (tapNews n t)[j]? = some u → w.cell? (ad.add j) = some u := fun j u hu => by
  obtain ⟨hj, rfl⟩ := news_at hu
  obtain ⟨b, off, rfl, _, h0, h1, h2⟩ := hT (j / 3) (by omega)
  cases he
  rw [add_flat]
  have h3 : j % 3 = 0 ∨ j % 3 = 1 ∨ j % 3 = 2 := by omega
  rcases h3 with h3 | h3 | h3
  · rw [if_pos h3, show off + j = off + j / 3 * 3 by omega]; exact h0
  · rw [if_neg (by omega), if_pos h3, show off + j = off + j / 3 * 3 + 1 by omega]; exact h1
  · rw [if_neg (by omega), if_neg (by omega), show off + j = off + j / 3 * 3 + 2 by omega]; exact h2
theorem rules_news {w : World} {oa : Option Addr} {n : Nat} {t : Nat → Rule} (hT : RulesAt w oa n t) (ad : Addr) (he : oa = some ad) : ∀ j u, (ruleNews n t)[j]? = some u → w.cell? (ad.add j) = some u := fun j u hu => by
  obtain ⟨hj, rfl⟩ := news_at hu
  obtain ⟨b, off, rfl, _, h0, h1⟩ := hT (j / 2) (by omega)
  cases he
  rw [add_flat]
  have h3 : j % 2 = 0 ∨ j % 2 = 1 := by omega
  rcases h3 with h3 | h3
  · rw [if_pos h3, show off + j = off + j / 2 * 2 by omega]; exact h0
  · rw [if_neg (by omega), show off + j = off + j / 2 * 2 + 1 by omega]; exact h1
theorem meters_news {w : World} {oa : Option Addr} {n : Nat} {t : Nat → Meter} (hT : MetersAt w oa n t) (ad : Addr) (he : oa = some ad) : ∀ j u, (meterNews n t)[j]? = some u → w.cell? (ad.add j) = some u := fun j u hu => by
  obtain ⟨hj, rfl⟩ := news_at hu
  obtain ⟨b, off, rfl, _, h0, h1, h2, h4⟩ := hT (j / 4) (by omega)
  cases he
  rw [add_flat]
  have h3 : j % 4 = 0 ∨ j % 4 = 1 ∨ j % 4 = 2 ∨ j % 4 = 3 := by omega
  rcases h3 with h3 | h3 | h3 | h3
  · rw [if_pos h3, show off + j = off + j / 4 * 4 by omega]; exact h0
  · rw [if_neg (by omega), if_pos h3, show off + j = off + j / 4 * 4 + 1 by omega]; exact h1
  · rw [if_neg (by omega), if_neg (by omega), if_pos h3, show off + j = off + j / 4 * 4 + 2 by omega]; exact h2
  · rw [if_neg (by omega), if_neg (by omega), if_neg (by omega), show off + j = off + j / 4 * 4 + 3 by omega]; exact h4
theorem news_one {n : Nat} {f : Nat → Int} : ∀ u ∈ ((List.range n).map fun j => Value.int .i64 (f j)), u.oneCell' = true := fun u hu => by
  obtain ⟨j, _, rfl⟩ := List.mem_map.1 hu
  rfl
theorem owns_form {w : World} {base e size n : Nat} {v : Value} {xs : List Value} (h : w.ownsRow base e size v n xs) : ∃ oa cap, v = .slice oa n cap ∧ ∀ j u, xs[j]? = some u → ∃ g, oa = some ⟨g, 0, none⟩ ∧ g < w.heap.size ∧ w.cell? ⟨g, j, none⟩ = some u := by
  obtain ⟨hl, h⟩ := h
  rcases h with ⟨rfl, rfl⟩ | ⟨g, cap, cur, rfl, hb, hg, hn, hc, hcs, hx⟩
  · exact ⟨none, 0, rfl, fun j u hu => by
      have : xs = [] := List.eq_nil_of_length_eq_zero (by omega)
      subst this; cases hu⟩
  · refine ⟨_, cap, rfl, fun j u hu => ⟨g, rfl, ?_, ?_⟩⟩
    · rcases Nat.lt_or_ge g w.heap.size with h1 | h1
      · exact h1
      · rw [Array.getElem?_eq_none h1] at hg; cases hg
    · rw [cell_of_row w g j cur e (0, 0) hg]
      rw [← hx, List.getElem?_take] at hu
      split at hu
      · simpa using hu
      · cases hu
theorem news_get {n : Nat} {f : Nat → Int} {j : Nat} (hj : j < n) : ((List.range n).map fun j => Value.int .i64 (f j))[j]? = some (.int .i64 (f j)) := by
  rw [List.getElem?_map, List.getElem?_range hj]; rfl
theorem owns_taps {w : World} {base n : Nat} {v : Value} {t : Nat → Tap} (h : w.ownsRow base 52 3 v n (tapNews n t)) : ∃ oa cap, v = .slice oa n cap ∧ TapsAt w oa n t := by
  obtain ⟨oa, cap, rfl, hx⟩ := owns_form h
  refine ⟨oa, cap, rfl, fun i hi => ?_⟩
  have c0 := hx (i * 3) _ (news_get (by omega))
  have c1 := hx (i * 3 + 1) _ (news_get (by omega))
  have c2 := hx (i * 3 + 2) _ (news_get (by omega))
  obtain ⟨g, e, hg, h0⟩ := c0
  obtain ⟨g1, e1, _, h1⟩ := c1
  obtain ⟨g2, e2, _, h2⟩ := c2
  subst e
  cases e1; cases e2
  rw [if_pos (by omega), show i * 3 / 3 = i by omega] at h0
  rw [if_neg (by omega), if_pos (by omega), show (i * 3 + 1) / 3 = i by omega] at h1
  rw [if_neg (by omega), if_neg (by omega), show (i * 3 + 2) / 3 = i by omega] at h2
  exact ⟨g, 0, rfl, hg, by rw [Nat.zero_add]; exact h0, by rw [Nat.zero_add]; exact h1, by rw [Nat.zero_add]; exact h2⟩
theorem owns_rules {w : World} {base n : Nat} {v : Value} {t : Nat → Rule} (h : w.ownsRow base 65 2 v n (ruleNews n t)) : ∃ oa cap, v = .slice oa n cap ∧ RulesAt w oa n t := by
  obtain ⟨oa, cap, rfl, hx⟩ := owns_form h
  refine ⟨oa, cap, rfl, fun i hi => ?_⟩
  have c0 := hx (i * 2) _ (news_get (by omega))
  have c1 := hx (i * 2 + 1) _ (news_get (by omega))
  obtain ⟨g, e, hg, h0⟩ := c0
  obtain ⟨g1, e1, _, h1⟩ := c1
  subst e
  cases e1
  rw [if_pos (by omega), show i * 2 / 2 = i by omega] at h0
  rw [if_neg (by omega), show (i * 2 + 1) / 2 = i by omega] at h1
  exact ⟨g, 0, rfl, hg, by rw [Nat.zero_add]; exact h0, by rw [Nat.zero_add]; exact h1⟩
theorem owns_meters {w : World} {base n : Nat} {v : Value} {t : Nat → Meter} (h : w.ownsRow base 27 4 v n (meterNews n t)) : ∃ oa cap, v = .slice oa n cap ∧ MetersAt w oa n t := by
  obtain ⟨oa, cap, rfl, hx⟩ := owns_form h
  refine ⟨oa, cap, rfl, fun i hi => ?_⟩
  have c0 := hx (i * 4) _ (news_get (by omega))
  have c1 := hx (i * 4 + 1) _ (news_get (by omega))
  have c2 := hx (i * 4 + 2) _ (news_get (by omega))
  have c3 := hx (i * 4 + 3) _ (news_get (by omega))
  obtain ⟨g, e, hg, h0⟩ := c0
  obtain ⟨g1, e1, _, h1⟩ := c1
  obtain ⟨g2, e2, _, h2⟩ := c2
  obtain ⟨g3, e3, _, h3⟩ := c3
  subst e
  cases e1; cases e2; cases e3
  rw [if_pos (by omega), show i * 4 / 4 = i by omega] at h0
  rw [if_neg (by omega), if_pos (by omega), show (i * 4 + 1) / 4 = i by omega] at h1
  rw [if_neg (by omega), if_neg (by omega), if_pos (by omega), show (i * 4 + 2) / 4 = i by omega] at h2
  rw [if_neg (by omega), if_neg (by omega), if_neg (by omega), show (i * 4 + 3) / 4 = i by omega] at h3
  exact ⟨g, 0, rfl, hg, by rw [Nat.zero_add]; exact h0, by rw [Nat.zero_add]; exact h1, by rw [Nat.zero_add]; exact h2, by rw [Nat.zero_add]; exact h3⟩
end Go.Proofs.Ytckagcbjcpfjpaa
