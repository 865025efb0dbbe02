/- Travel, plain: what TravelProof asks of a clash: it is no single trip, all but one of it fit, and no other trips are fewer, or as many and come before. -/
import Derived.Test.YtldodmfmibeoiaaDoorF1
namespace Go.Proofs.YtldodmfmibeoiaaDoor
open Go.RowKit
theorem single_fine {r : Rnd} (hv : r.valid = true) (off : Int) {k : Nat} (hk : k < r.n) : badL r off [k] = false := by
  have hg : GoodL r.n [k] := ⟨List.pairwise_singleton _ _, fun m hm => by rw [List.mem_singleton] at hm; omega⟩
  have hn := (Rnd.valid_head hv).2.2.2
  have h1 := bad_tab hv off hg (setL_lt hg.2) (mem2_setL hg hn)
  have h2 := (Rnd.tab_ok hv (setL_lt hg.2) (off := off)).2 ⟨fun i => if i = 7 + (r.t k).m.toNat then (r.t k).lo else 0, fun b hb hne => ?_, fun j hj hm => ?_⟩
  · rw [h1, h2]; rfl
  · have h3 := (Rnd.valid_head hv).2.2.1.1
    have h4 := (Rnd.valid_head hv).1.2
    have e1 : ¬ (1 + b = 7 + (r.t k).m.toNat) := by omega
    have e2 : ¬ (0 = 7 + (r.t k).m.toNat) := by omega
    simp only [e1, e2, if_false]
    omega
  · rw [mem2_setL hg hn, List.mem_singleton] at hm
    subst hm
    have h3 := Rnd.valid_trip hv hj
    have h4 := (Rnd.valid_head hv).1.2
    have e1 : ¬ (1 + (r.t j).b.toNat = 7 + (r.t j).m.toNat) := by omega
    unfold Trp.C
    simp only [e1, if_true, if_false]
    omega
theorem best_good {r : Rnd} (hv : r.valid = true) {off : Int} {best : Nat} (hB : ClB r off best) : GoodL r.n (mem2 best) ∧ badL r off (mem2 best) = true := by
  have hn := (Rnd.valid_head hv).2.2.2
  have hg := good_mem2 hB.1 hn
  exact ⟨hg, by rw [bad_tab hv off hg hB.1 rfl, hB.2.1]; rfl⟩
theorem best_two {r : Rnd} (hv : r.valid = true) {off : Int} {best : Nat} (hB : ClB r off best) : 2 ≤ (mem2 best).length := by
  obtain ⟨hg, hb⟩ := best_good hv hB
  generalize mem2 best = M at hg hb
  by_cases h0 : M.length = 0
  · have e := List.eq_nil_of_length_eq_zero h0
    rw [e, empty_fine hv] at hb
    cases hb
  · by_cases h1 : M.length = 1
    · obtain ⟨k, e⟩ := List.length_eq_one_iff.1 h1
      rw [e] at hb hg
      rw [single_fine hv off (hg.2 k (by simp))] at hb
      cases hb
    · omega
/-- fewer trips than the clash fit -/
theorem fewer_fine {r : Rnd} (hv : r.valid = true) {off : Int} {best : Nat} (hB : ClB r off best) {M : List Nat} (hg : GoodL r.n M) (hl : M.length < (mem2 best).length) : badL r off M = false := by
  have hn := (Rnd.valid_head hv).2.2.2
  have h2 : 2 ^ r.n ≤ 2 ^ 14 := Nat.pow_le_pow_right (by omega) hn
  have h3 : (2 : Nat) ^ 14 = 16384 := rfl
  have hs := setL_lt hg.2
  rw [bad_tab hv off hg hs (mem2_setL hg hn)]
  cases h9 : okT (r.tab off (setL M))
  · have hb1 := hB.1
    have hz1 := mem2_len best (by omega)
    have hz2 := mem2_len (setL M) (by omega)
    rw [mem2_setL hg hn] at hz2
    rcases hB.2.2 _ hs h9 with h8 | ⟨h8, -⟩ <;> omega
  · rfl
theorem all_but_one {r : Rnd} (hv : r.valid = true) {off : Int} {best : Nat} (hB : ClB r off best) {j : Nat} (hj : j < (mem2 best).length) : badL r off (dropK (mem2 best) (j : Nat) (mem2 best).length) = false := by
  refine fewer_fine hv hB (dropK_good (best_good hv hB).1 _ (Nat.le_refl _)) ?_
  rw [dropK_one, if_pos hj]
  omega
theorem best_none {r : Rnd} (hv : r.valid = true) {off : Int} {best : Nat} (hB : ClB r off best) : okT (r.D off) = false := by
  rw [Bool.eq_false_iff]
  intro h
  obtain ⟨x, hx⟩ := (Rnd.D_ok hv off).1 h
  have h2 := (Rnd.tab_ok hv hB.1 (off := off)).2 ⟨x, hx.1, fun k hk _ => hx.2 k hk trivial⟩
  rw [hB.2.1] at h2
  cases h2
/-- other trips, as many, that do not fit: at the first one that is another, the clash's comes before -/
theorem first_other {r : Rnd} (hv : r.valid = true) {off : Int} {best : Nat} (hB : ClB r off best) {M : List Nat} (hg : GoodL r.n M) (hl : M.length = (mem2 best).length) (hb : badL r off M = true) {i : Nat} (hi : i < M.length) (hs : ∀ j, j < i → M.getD j 0 = (mem2 best).getD j 0) (hne : M.getD i 0 ≠ (mem2 best).getD i 0) : (mem2 best).getD i 0 < M.getD i 0 := by
  have hn := (Rnd.valid_head hv).2.2.2
  have h2 : 2 ^ r.n ≤ 2 ^ 14 := Nat.pow_le_pow_right (by omega) hn
  have h3 : (2 : Nat) ^ 14 = 16384 := rfl
  obtain ⟨hgb, hbb⟩ := best_good hv hB
  have hb1 := hB.1
  have hsl := setL_lt hg.2
  have hz1 := mem2_len best (by omega)
  have hz2 := mem2_len (setL M) (by omega)
  rw [mem2_setL hg hn] at hz2
  have hok : okT (r.tab off (setL M)) = false := by
    have h9 := bad_tab hv off hg hsl (mem2_setL hg hn)
    rw [hb] at h9
    simpa using h9.symm
  false_or_by_contra
  rename_i hnl
  have hlt : M.getD i 0 < (mem2 best).getD i 0 := by omega
  have e1 : ∀ (A : List Nat), i < A.length → A = A.take i ++ A.getD i 0 :: A.drop (i + 1) := fun A hA => by
    rw [List.getD_eq_getElem?_getD, List.getElem?_eq_getElem hA, Option.getD_some, ← List.drop_eq_getElem_cons hA, List.take_append_drop]
  have e2 : M.take i = (mem2 best).take i := by
    apply List.ext_getElem
    · rw [List.length_take, List.length_take]; omega
    · intro j h8 h9
      rw [List.length_take] at h8 h9
      have h7 := hs j (by omega)
      rw [List.getD_eq_getElem?_getD, List.getD_eq_getElem?_getD, List.getElem?_eq_getElem (by omega), List.getElem?_eq_getElem (by omega), Option.getD_some, Option.getD_some] at h7
      rw [List.getElem_take, List.getElem_take]
      exact h7
  have hlex : lexLe M (mem2 best) := by
    rw [e1 M hi, e1 (mem2 best) (by omega), e2]
    exact lexLe_pre _ (.inl hlt)
  have hMne : M ≠ mem2 best := fun e => hne (by rw [e])
  have h5 := lex_before hn hg hgb hlex hl hMne
  have e3 : setL (mem2 best) = best := by
    apply Nat.eq_of_testBit_eq
    intro i
    rw [setL_bit]
    have := mem2_iff (k := i) best (by omega)
    cases h8 : best.testBit i
    · rw [h8] at this; simpa using this
    · rw [h8] at this; simpa using this
  rw [e3] at h5
  rcases hB.2.2 _ hsl hok with h9 | ⟨-, h9⟩
  · omega
  · rw [h9] at h5; cases h5
/-- other trips, by bits -/
def othK (bits : Nat) (i : Nat) : List Nat := (List.range i).filter bits.testBit
theorem othK_yes {bits i : Nat} (h : bits.testBit i = true) : othK bits (i + 1) = othK bits i ++ [i] := by simp [othK, List.range_succ, h]
theorem othK_no {bits i : Nat} (h : bits.testBit i = false) : othK bits (i + 1) = othK bits i := by simp [othK, List.range_succ, h]
theorem othK_len (bits i : Nat) : (othK bits i).length ≤ i := by
  have := List.length_filter_le bits.testBit (List.range i)
  simpa [othK] using this
theorem othK_good (bits n : Nat) : GoodL n (othK bits n) := by
  refine ⟨List.Pairwise.filter _ List.pairwise_lt_range, fun m hm => ?_⟩
  have := (List.mem_filter.1 hm).1
  simpa using this
end Go.Proofs.YtldodmfmibeoiaaDoor
