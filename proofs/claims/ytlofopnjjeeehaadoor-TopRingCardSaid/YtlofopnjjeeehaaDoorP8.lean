/- Travel, plain: what is told of a number; if what was found is true, what fits and what is told. -/
import Derived.Test.YtlofopnjjeeehaaDoorV9
import Derived.Test.YtlofopnjjeeehaaDoorV11
namespace Go.Proofs.YtlofopnjjeeehaaDoor
open Go.RowKit
theorem Rnd.tell_out {r : Rnd} {off idx many : Int} {k : Nat} {turn : Bool} (h : (r.tell off idx many k turn).e = 0) : r.err off = 0 ∧ withinB idx 0 (many - 1) = true ∧ okT (r.D off) = true ∧ r.D off k 0 < 1099511627776 ∧ r.D off 0 k < 1099511627776 ∧ (r.tell off idx many k turn) = if turn then ⟨-(r.D off k 0), r.D off 0 k, 0⟩ else ⟨-(r.D off 0 k), r.D off k 0, 0⟩ := by
  unfold Rnd.tell at h ⊢
  by_cases h1 : r.err off ≠ 0
  · rw [if_pos h1] at h; exact absurd h h1
  · rw [if_neg h1] at h ⊢
    by_cases h2 : withinB idx 0 (many - 1) = false
    · rw [if_pos h2] at h; cases h
    · rw [if_neg h2] at h ⊢
      by_cases h3 : okT (r.D off) = false
      · rw [if_pos h3] at h; cases h
      · rw [if_neg h3] at h ⊢
        unfold tellD at h ⊢
        by_cases h4 : r.D off k 0 < 1099511627776 ∧ r.D off 0 k < 1099511627776
        · rw [if_pos h4]
          exact ⟨by omega, by simpa using h2, by simpa using h3, h4.1, h4.2, rfl⟩
        · rw [if_neg h4] at h; cases h
theorem Rnd.valid_mk {r : Rnd} (h1 : 1 ≤ r.nb ∧ r.nb ≤ 6) (h2 : 1 ≤ r.nm ∧ r.nm ≤ 6) (h3 : 0 ≤ r.most ∧ r.most ≤ 100000) (h4 : r.n ≤ 14) (h5 : ∀ i, i < r.n → 0 ≤ (r.t i).b ∧ (r.t i).b < r.nb ∧ 0 ≤ (r.t i).m ∧ (r.t i).m < r.nm ∧ -100000 ≤ (r.t i).lo ∧ (r.t i).lo ≤ (r.t i).hi ∧ (r.t i).hi ≤ 100000) : r.valid = true := by
  unfold Rnd.valid Rnd.head
  have e : anyB r.n (fun i => badT r.nb r.nm (r.t i)) = false := by
    cases h9 : anyB r.n (fun i => badT r.nb r.nm (r.t i))
    · rfl
    · obtain ⟨i, hi, hp⟩ := anyB_iff.1 h9
      have := h5 i hi
      unfold badT withinB at hp
      simp only [Bool.or_eq_true, Bool.not_eq_true', decide_eq_false_iff_not, decide_eq_true_eq] at hp
      omega
  rw [e]
  simp only [withinB, Bool.and_eq_true, decide_eq_true_eq, Bool.not_false, and_true]
  exact ⟨h1, h2, h3, h4⟩
theorem Rnd.err_mk {r : Rnd} {off : Int} (hv : r.valid = true) (h : -1 ≤ off ∧ off ≤ r.nb - 1) : r.err off = 0 := by
  unfold Rnd.err
  rw [if_neg (by rw [hv]; simp), if_neg]
  simp only [withinB, decide_eq_false_iff_not]
  omega
theorem Rnd.tell_fin {r : Rnd} {off idx many : Int} {k : Nat} {turn : Bool} (he : r.err off = 0) (hi : withinB idx 0 (many - 1) = true) (ho : okT (r.D off) = true) (f1 : r.D off k 0 < 1099511627776) (f2 : r.D off 0 k < 1099511627776) :
    r.tell off idx many k turn = if turn then ⟨-(r.D off k 0), r.D off 0 k, 0⟩ else ⟨-(r.D off 0 k), r.D off k 0, 0⟩ := by
  unfold Rnd.tell tellD
  rw [if_neg (by omega), if_neg (by rw [hi]; simp), if_neg (by rw [ho]; simp), if_pos ⟨f1, f2⟩]
theorem Rnd.fin_of {r : Rnd} {off : Int} (hv : r.valid = true) (ho : okT (r.D off) = true) {i j : Nat} (hi : i < 13) (hj : j < 13) {c : Int} (h : ∀ x, r.CA off x → x i - x j ≤ c) : r.D off i j < 1099511627776 := by
  by_cases hf : r.D off i j < 1099511627776
  · exact hf
  · obtain ⟨x, h1, h2⟩ := Rnd.D_far hv ho hi hj hf (c + 1)
    have := h x h1
    omega
theorem fits_err {r : Rnd} {off : Int} (he : r.err off = 0) : r.fitsB off = okT (r.D off) := by unfold Rnd.fitsB; rw [he, decide_eq_true rfl, Bool.true_and]
section
variable {r : Rnd} {off : Int} {x : Nat → Int}
theorem true_fits (he : r.err off = 0) (hx : r.CA off x) : okT (r.D off) = true ∧ r.fitsB off = true := by
  have ho := (Rnd.D_ok (Rnd.err_zero he).1 off).2 ⟨x, hx⟩
  exact ⟨ho, by rw [fits_err he, ho]⟩
theorem pickS_zero {l : List Nat} {b : Int} (h : (pickS l).2 = 0) (hb : (pickS l).1 = b) {k : Nat} (hk : k ∈ l) : b = (k : Int) := by
  rcases l with _ | ⟨a, _ | ⟨c, l⟩⟩
  · cases hk
  · simp only [List.mem_singleton] at hk
    subst hk
    exact hb.symm
  · cases h
/-- no other bench is convicted -/
theorem true_convict (he : r.err off = 0) (hx : r.CA off x) : (r.convict.2 = 0 → r.convict.1 = off) ∧ (r.convict.2 = 0 ∨ r.convict.2 = 4 ∨ r.convict.2 = 12) ∧ (off < 0 → r.convict.2 = 4) := by
  have hv := (Rnd.err_zero he).1
  have hr := (Rnd.err_zero he).2
  have hh := Rnd.valid_head hv
  have heN : r.err (-1) = 0 := Rnd.err_mk hv (by omega)
  have ho := (true_fits he hx).1
  unfold Rnd.convict
  rw [if_neg (by omega)]
  by_cases h9 : okT (r.D (-1)) = true
  · rw [if_pos h9]
    exact ⟨(fun h => by cases h), .inr (.inl rfl), fun _ => rfl⟩
  · rw [if_neg h9]
    have hoff : 0 ≤ off := by
      by_cases h8 : 0 ≤ off
      · exact h8
      · obtain rfl : off = -1 := by omega
        exact absurd ho h9
    obtain ⟨k, rfl⟩ : ∃ k : Nat, off = k := ⟨off.toNat, by omega⟩
    have hmem : k ∈ r.susp r.nb.toNat := by
      unfold Rnd.susp
      rw [List.mem_filter]
      exact ⟨List.mem_range.2 (by omega), ho⟩
    refine ⟨fun h => pickS_zero h rfl hmem, ?_, fun h => by omega⟩
    rcases hl : r.susp r.nb.toNat with _ | ⟨a, _ | ⟨c, l⟩⟩
    · rw [hl] at hmem; cases hmem
    · exact .inl rfl
    · exact .inr (.inr rfl)
theorem tellD_e (D : T13) (k : Nat) (turn : Bool) : (tellD D k turn).e = 0 ∨ (tellD D k turn).e = 4 := by
  unfold tellD
  split
  · cases turn <;> exact .inl rfl
  · exact .inr rfl
theorem true_tell (he : r.err off = 0) (hx : r.CA off x) {i many : Int} {k : Nat} {turn : Bool} (hi : 0 ≤ i ∧ i < many) (hk : k < 13) :
    ((r.tell off i many k turn).e = 0 ∨ (r.tell off i many k turn).e = 4) ∧ ((r.tell off i many k turn).e = 0 → (r.tell off i many k turn).lo ≤ (if turn then x 0 - x k else x k - x 0) ∧ (if turn then x 0 - x k else x k - x 0) ≤ (r.tell off i many k turn).hi) := by
  have ho := (true_fits he hx).1
  have hv := (Rnd.err_zero he).1
  constructor
  · unfold Rnd.tell
    rw [if_neg (by omega), if_neg (by simp only [withinB, decide_eq_false_iff_not]; omega), if_neg (by rw [ho]; simp)]
    exact tellD_e _ _ _
  · intro h
    obtain ⟨-, -, -, f1, f2, e⟩ := Rnd.tell_out h
    have u1 := (Rnd.D_lt hv ho hk (by omega) f1).1 x hx
    have u2 := (Rnd.D_lt hv ho (by omega) hk f2).1 x hx
    rw [e]
    cases turn
    · simp; omega
    · simp; omega
end
end Go.Proofs.YtlofopnjjeeehaaDoor
