/- Travel, plain: if what was found is true, the suspicion of what is truly off fits, and what is told holds the truth. -/
import Derived.Test.YtldodmfmibeoiaaDoorP6
namespace Go.Proofs.YtldodmfmibeoiaaDoor
open Go.RowKit
section
variable {r : Rnd} {off : Int} {x : Nat → Int}
theorem true_fits (he : r.err off = 0) (hx : r.CA off x) : okT (r.D off) = true ∧ r.fitsB off = true := by
  have ho := (Rnd.D_ok (Rnd.err_zero he).1 off).2 ⟨x, hx⟩
  exact ⟨ho, by rw [fits_err he, ho]⟩
/-- nothing speaks against it -/
theorem true_clash (he : r.err off = 0) (hx : r.CA off x) {s : Nat} (hs : s < 2 ^ r.n) : okT (r.tab off s) = true :=
  (Rnd.tab_ok (Rnd.err_zero he).1 hs).2 ⟨x, hx.1, fun k hk _ => hx.2 k hk trivial⟩
theorem pickS_zero {l : List Nat} {b : Int} (h : (pickS l).2 = 0) (hb : (pickS l).1 = b) {k : Nat} (hk : k ∈ l) : b = (k : Int) := by
  rcases l with _ | ⟨a, _ | ⟨c, l⟩⟩
  · cases hk
  · simp only [List.mem_singleton] at hk
    subst hk
    exact hb.symm
  · cases h
/-- no other bench is convicted -/
theorem true_convict (he : r.err off = 0) (hx : r.CA off x) : (r.convict.2 = 0 → r.convict.1 = off) ∧ (r.convict.2 = 0 ∨ r.convict.2 = 4 ∨ r.convict.2 = 12) ∧ (off < 0 → r.convict.2 = 4) := by
  have hv := (Rnd.err_zero he).1
  have hr := (Rnd.err_zero he).2
  have hh := Rnd.valid_head hv
  have heN : r.err (-1) = 0 := Rnd.err_mk hv (by omega)
  have ho := (true_fits he hx).1
  unfold Rnd.convict
  rw [if_neg (by omega)]
  by_cases h9 : okT (r.D (-1)) = true
  · rw [if_pos h9]
    exact ⟨(fun h => by cases h), .inr (.inl rfl), fun _ => rfl⟩
  · rw [if_neg h9]
    have hoff : 0 ≤ off := by
      by_cases h8 : 0 ≤ off
      · exact h8
      · obtain rfl : off = -1 := by omega
        exact absurd ho h9
    obtain ⟨k, rfl⟩ : ∃ k : Nat, off = k := ⟨off.toNat, by omega⟩
    have hmem : k ∈ r.susp r.nb.toNat := by
      unfold Rnd.susp
      rw [List.mem_filter]
      exact ⟨List.mem_range.2 (by omega), ho⟩
    refine ⟨fun h => pickS_zero h rfl hmem, ?_, fun h => by omega⟩
    rcases hl : r.susp r.nb.toNat with _ | ⟨a, _ | ⟨c, l⟩⟩
    · rw [hl] at hmem; cases hmem
    · exact .inl rfl
    · exact .inr (.inr rfl)
theorem tellD_e (D : T13) (k : Nat) (turn : Bool) : (tellD D k turn).e = 0 ∨ (tellD D k turn).e = 4 := by
  unfold tellD
  split
  · cases turn <;> exact .inl rfl
  · exact .inr rfl
theorem true_tell (he : r.err off = 0) (hx : r.CA off x) {i many : Int} {k : Nat} {turn : Bool} (hi : 0 ≤ i ∧ i < many) (hk : k < 13) :
    ((r.tell off i many k turn).e = 0 ∨ (r.tell off i many k turn).e = 4) ∧ ((r.tell off i many k turn).e = 0 → (r.tell off i many k turn).lo ≤ (if turn then x 0 - x k else x k - x 0) ∧ (if turn then x 0 - x k else x k - x 0) ≤ (r.tell off i many k turn).hi) := by
  have ho := (true_fits he hx).1
  have hv := (Rnd.err_zero he).1
  constructor
  · unfold Rnd.tell
    rw [if_neg (by omega), if_neg (by simp only [withinB, decide_eq_false_iff_not]; omega), if_neg (by rw [ho]; simp)]
    exact tellD_e _ _ _
  · intro h
    obtain ⟨-, -, -, f1, f2, e⟩ := Rnd.tell_out h
    have u1 := (Rnd.D_lt hv ho hk (by omega) f1).1 x hx
    have u2 := (Rnd.D_lt hv ho (by omega) hk f2).1 x hx
    rw [e]
    cases turn
    · simp; omega
    · simp; omega
set_option maxRecDepth 100000 in
/-- the fault of a bench that is right is known, and within Most -/
theorem true_right (he : r.err off = 0) (hx : r.CA off x) {i : Int} (hi : 0 ≤ i ∧ i < r.nb) (hne : i ≠ off) : (r.fault off i).e = 0 ∧ -r.most ≤ (r.fault off i).lo ∧ (r.fault off i).hi ≤ r.most := by
  have ho := (true_fits he hx).1
  have hv := (Rnd.err_zero he).1
  have hh := Rnd.valid_head hv
  have hk : 1 + i.toNat < 13 := by omega
  have v1 : ∀ y, r.CA off y → y (1 + i.toNat) - y 0 ≤ r.most := fun y hy => (hy.1 i.toNat (by omega) (by omega)).1
  have v2 : ∀ y, r.CA off y → y 0 - y (1 + i.toNat) ≤ r.most := fun y hy => (hy.1 i.toNat (by omega) (by omega)).2
  have g1 := Rnd.fin_of hv ho hk (by omega) v1
  have g2 := Rnd.fin_of hv ho (by omega) hk v2
  have m1 := Rnd.le_of hv ho hk (by omega) v1
  have m2 := Rnd.le_of hv ho (by omega) hk v2
  have hi9 : withinB i 0 (r.nb - 1) = true := by simp only [withinB, decide_eq_true_eq]; omega
  have ht := Rnd.tell_fin (turn := true) (many := r.nb) (idx := i) he hi9 ho g1 g2
  rw [if_pos rfl] at ht
  have hf : r.fault off i = r.tell off i r.nb (1 + i.toNat) true := rfl
  rw [hf, ht]
  clear ht hf g1 g2 v1 v2 ho hi9
  obtain ⟨a, ha⟩ : ∃ a, a = r.D off (1 + i.toNat) 0 := ⟨_, rfl⟩
  obtain ⟨b, hb⟩ : ∃ b, b = r.D off 0 (1 + i.toNat) := ⟨_, rfl⟩
  rw [← ha] at m1 ⊢
  rw [← hb] at m2 ⊢
  clear ha hb
  dsimp only
  omega
end
end Go.Proofs.YtldodmfmibeoiaaDoor
