/- Zone: rows of zones that are made: what is appended, a zone or a field that is stored. -/
import Derived.Test.YtipnaeijbbbdoaaP3
namespace Go.Proofs.Ytipnaeijbbbdoaa
open Go.RowKit
def zonNews (n : Nat) (f : Nat → Zon) : List Value := (List.range n).flatMap fun i => (f i).cells.toList
theorem zonNews_succ (n : Nat) (f : Nat → Zon) : zonNews (n + 1) f = zonNews n f ++ (f n).cells.toList := by simp [zonNews, List.range_succ, List.flatMap_append]
theorem zonNews_length (n : Nat) (f : Nat → Zon) : (zonNews n f).length = n * 9 := by
  induction n with
  | zero => rfl
  | succ n ih => rw [zonNews_succ, List.length_append, ih]; simp; omega
theorem zonNews_get {n : Nat} {f : Nat → Zon} {i k : Nat} (hi : i < n) (hk : k < 9) : (zonNews n f)[i * 9 + k]? = (f i).cells[k]? := by
  induction n with
  | zero => omega
  | succ n ih =>
    rw [zonNews_succ]
    have hl := zonNews_length n f
    by_cases h : i = n
    · subst h
      rw [List.getElem?_append_right (by omega), hl, show i * 9 + k - i * 9 = k by omega, Array.getElem?_toList]
    · rw [List.getElem?_append_left (by omega)]
      exact ih (by omega)
/-- the cells of one of several zones -/
theorem zons_at {w : World} {oa : Option Addr} {n : Nat} {f : Nat → Zon} (h : ZonsAt w oa n f) {i : Nat} (hi : i < n) : ∃ b off, oa = some ⟨b, off, none⟩ ∧ b < w.heap.size ∧ ∀ k u, (f i).cells[k]? = some u → w.cell? ⟨b, off + (i * 9 + k), none⟩ = some u := by
  obtain ⟨b, off, e, hl, c0, c1, c2, c3, c4, c5, c6, c7, c8⟩ := h i hi
  refine ⟨b, off, e, hl, fun k u hu => ?_⟩
  have hk : k < 9 := by
    have := (Array.getElem?_eq_some_iff.1 hu).1
    simpa using this
  rcases k with _|_|_|_|_|_|_|_|_|k
  all_goals first
    | omega
    | (simp at hu; subst hu; first | exact c0 | exact c1 | exact c2 | exact c3 | exact c4 | exact c5 | exact c6 | exact c7 | exact c8)
theorem zons_mk {w : World} {b off n : Nat} {f : Nat → Zon} (hl : b < w.heap.size) (h : ∀ i, i < n → ∀ k u, k < 9 → (f i).cells[k]? = some u → w.cell? ⟨b, off + (i * 9 + k), none⟩ = some u) : ZonsAt w (some ⟨b, off, none⟩) n f := fun i hi =>
  ⟨b, off, rfl, hl, h i hi 0 _ (by omega) rfl, h i hi 1 _ (by omega) rfl, h i hi 2 _ (by omega) rfl, h i hi 3 _ (by omega) rfl, h i hi 4 _ (by omega) rfl, h i hi 5 _ (by omega) rfl, h i hi 6 _ (by omega) rfl, h i hi 7 _ (by omega) rfl, h i hi 8 _ (by omega) rfl⟩
/-- the zones that are appended, as cells -/
theorem zons_news {w : World} {oa : Option Addr} {n : Nat} {f : Nat → Zon} (h : ZonsAt w oa n f) : ∀ ad, oa = some ad → ∀ j u, (zonNews n f)[j]? = some u → w.cell? (ad.add j) = some u := fun ad had j u hu => by
  have hj : j < n * 9 := by
    obtain ⟨hl, -⟩ := List.getElem?_eq_some_iff.1 hu
    rw [zonNews_length] at hl; exact hl
  obtain ⟨b, off, e, -, hc⟩ := zons_at h (i := j / 9) (by omega)
  rw [had] at e
  cases e
  have h1 := zonNews_get (n := n) (f := f) (i := j / 9) (k := j % 9) (by omega) (by omega)
  have hjj : j / 9 * 9 + j % 9 = j := by omega
  rw [hjj, hu] at h1
  rw [add_flat]
  have := hc (j % 9) u h1.symm
  rw [hjj] at this
  exact this
theorem zons_one {n : Nat} {f : Nat → Zon} : ∀ u ∈ zonNews n f, u.oneCell' = true := fun u hu => by
  simp only [zonNews, List.mem_flatMap] at hu
  obtain ⟨i, -, h⟩ := hu
  simp at h
  rcases h with rfl | rfl | rfl | rfl | rfl | rfl | rfl | rfl | rfl <;> rfl
/-- these cells begin with these zones -/
def ZRow (n : Nat) (f : Nat → Zon) (cur : Array Value) : Prop := n * 9 ≤ cur.size ∧ ∀ i, i < n → ∀ k, k < 9 → cur[i * 9 + k]? = (f i).cells[k]?
theorem ZRow.at_ {w : World} {g n : Nat} {f : Nat → Zon} {cur : Array Value} (h : ZRow n f cur) (hb : Box g cur 48 w) : ZonsAt w (some ⟨g, 0, none⟩) n f :=
  zons_mk hb.lt fun i hi k u hk hu => by
    rw [Nat.zero_add]
    exact hb.cell _ ((h.2 i hi k hk).trans hu)
theorem owns_zrow {w : World} {base n : Nat} {v : Value} {f : Nat → Zon} (h : w.ownsRow base 48 9 v n (zonNews n f)) (hn : 0 < n) : ∃ g cap cur, v = .slice (some ⟨g, 0, none⟩) n cap ∧ base ≤ g ∧ Box g cur 48 w ∧ ZRow n f cur := by
  obtain ⟨-, ⟨-, h0⟩ | ⟨g, cap, cur, rfl, hb, hg, hnc, -, hcs, hx⟩⟩ := h
  · omega
  · refine ⟨g, cap, cur, rfl, hb, ⟨hg⟩, by rw [hcs]; omega, fun i hi k hk => ?_⟩
    have h1 := zonNews_get (n := n) (f := f) hi hk
    rw [← h1, ← hx, List.getElem?_take_of_lt (by omega), Array.getElem?_toList]
def updZ (f : Nat → Zon) (i : Nat) (x : Zon) : Nat → Zon := fun j => if j = i then x else f j
theorem updZ_self (f : Nat → Zon) (i : Nat) (x : Zon) : updZ f i x i = x := if_pos rfl
theorem updZ_ne {f : Nat → Zon} {i j : Nat} {x : Zon} (h : j ≠ i) : updZ f i x j = f j := if_neg h
theorem setA_size : ∀ (vs : List Value) (o : Nat) (cs : Array Value), (setA cs o vs).size = cs.size
  | [], _, _ => rfl
  | v :: r, o, cs => by unfold setA; rw [setA_size r]; simp
theorem setA_get : ∀ (vs : List Value) (o : Nat) (cs : Array Value) (k : Nat), o + vs.length ≤ cs.size → (setA cs o vs)[k]? = if o ≤ k ∧ k < o + vs.length then vs[k - o]? else cs[k]?
  | [], o, cs, k, _ => by
    rw [if_neg (by simp)]
    rfl
  | v :: r, o, cs, k, h => by
    simp only [List.length_cons] at h
    unfold setA
    rw [setA_get r (o + 1) _ k (by simp; omega)]
    by_cases h1 : k = o
    · subst h1
      rw [if_neg (by omega), if_pos (by simp), Array.getElem?_setIfInBounds_self_of_lt (by omega)]
      simp
    · by_cases h2 : o + 1 ≤ k ∧ k < o + 1 + r.length
      · rw [if_pos h2, if_pos (by simp; omega), show k - o = (k - (o + 1)) + 1 by omega]
        simp
      · rw [if_neg h2, if_neg (by simp; omega), Array.getElem?_setIfInBounds_ne (by omega)]
/-- a zone is stored -/
theorem ZRow.set {n i : Nat} {f : Nat → Zon} {cur : Array Value} (h : ZRow n f cur) (hi : i < n) (x : Zon) : ZRow n (updZ f i x) (setA cur (i * 9) x.cells.toList) := by
  obtain ⟨hs, hc⟩ := h
  have h9 : x.cells.toList.length = 9 := rfl
  refine ⟨by rw [setA_size]; exact hs, fun j hj k hk => ?_⟩
  rw [setA_get _ _ _ _ (by rw [h9]; omega), h9]
  by_cases hji : j = i
  · subst hji
    rw [if_pos (by omega), updZ_self, show j * 9 + k - j * 9 = k by omega, Array.getElem?_toList]
  · rw [if_neg (by omega), updZ_ne hji]
    exact hc j hj k hk
/-- a field is stored -/
theorem ZRow.set1 {n i k0 : Nat} {f : Nat → Zon} {cur : Array Value} {v : Value} (h : ZRow n f cur) (hi : i < n) (hk0 : k0 < 9) {x : Zon} (hx : ∀ k, k < 9 → x.cells[k]? = if k = k0 then some v else (f i).cells[k]?) : ZRow n (updZ f i x) (cur.setIfInBounds (i * 9 + k0) v) := by
  obtain ⟨hs, hc⟩ := h
  refine ⟨by simpa using hs, fun j hj k hk => ?_⟩
  by_cases hji : j = i
  · subst hji
    rw [updZ_self, hx k hk]
    by_cases h0 : k = k0
    · subst h0
      rw [if_pos rfl, Array.getElem?_setIfInBounds_self_of_lt (by omega)]
    · rw [if_neg h0, Array.getElem?_setIfInBounds_ne (by omega)]
      exact hc j hj k hk
  · rw [updZ_ne hji, Array.getElem?_setIfInBounds_ne (by omega)]
    exact hc j hj k hk
end Go.Proofs.Ytipnaeijbbbdoaa
