/- Travel, plain: the document's rules and the program's table say the same. -/
import Derived.Test.YtldodmfmibeoiaaDoorR2
namespace Go.Proofs.YtldodmfmibeoiaaDoor
open Go.RowKit
/-- the document's number of a thing, by the program's, and back -/
def dnI (nb i : Nat) : Nat := if i ≤ 6 then i else i - 6 + nb
def upI (nb i : Nat) : Nat := if i ≤ nb then i else i - nb + 6
theorem dn_up {nb i : Nat} (h : nb ≤ 6) : dnI nb (upI nb i) = i := by unfold dnI upI; split <;> split <;> omega
theorem up_lt {nb nm i : Nat} (h : nb ≤ 6) (h2 : nm ≤ 6) (hi : i < 1 + nb + nm) : upI nb i < 13 := by unfold upI; split <;> omega
/-- a round with other trips -/
def Rnd.sub (r : Rnd) (n : Nat) (t : Nat → Trp) : Rnd := ⟨r.nb, r.nm, r.most, n, t⟩
theorem Rnd.sol_iff (r : Rnd) (off : Int) (x : Nat → Int) : SolR (r.rulesR off r.n r.t).2 (r.rulesR off r.n r.t).1 x ↔ (∀ b : Nat, b < r.nb.toNat → (b : Int) ≠ off → x (1 + b) - x 0 ≤ r.most ∧ x 0 - x (1 + b) ≤ r.most) ∧ ∀ k, k < r.n → x (1 + r.nb.toNat + (r.t k).m.toNat) - x (1 + (r.t k).b.toNat) ≤ (r.t k).hi ∧ x (1 + (r.t k).b.toNat) - x (1 + r.nb.toNat + (r.t k).m.toNat) ≤ -(r.t k).lo :=
  (tripR_sol r.n).trans (and_congr_left' (benR_sol _))
theorem Rnd.sol_up {r : Rnd} (hv : r.valid = true) {off : Int} {x : Nat → Int} (h : SolR (r.rulesR off r.n r.t).2 (r.rulesR off r.n r.t).1 x) : r.CA off (fun i => x (dnI r.nb.toNat i)) := by
  have hh := Rnd.valid_head hv
  obtain ⟨h1, h2⟩ := (Rnd.sol_iff r off x).1 h
  refine ⟨fun b hb hne => ?_, fun k hk _ => ?_⟩
  · have h9 := h1 b (by omega) hne
    have e1 : dnI r.nb.toNat (1 + b) = 1 + b := by unfold dnI; rw [if_pos (by omega)]
    have e0 : dnI r.nb.toNat 0 = 0 := by unfold dnI; rw [if_pos (by omega)]
    simp only [e1, e0]
    exact h9
  · have h9 := h2 k hk
    have h8 := Rnd.valid_trip hv hk
    have e1 : dnI r.nb.toNat (1 + (r.t k).b.toNat) = 1 + (r.t k).b.toNat := by unfold dnI; rw [if_pos (by omega)]
    have e0 : dnI r.nb.toNat (7 + (r.t k).m.toNat) = 1 + r.nb.toNat + (r.t k).m.toNat := by unfold dnI; rw [if_neg (by omega)]; omega
    unfold Trp.C
    simp only [e1, e0]
    exact h9
theorem Rnd.sol_dn {r : Rnd} (hv : r.valid = true) {off : Int} {x : Nat → Int} (h : r.CA off x) : SolR (r.rulesR off r.n r.t).2 (r.rulesR off r.n r.t).1 (fun i => x (upI r.nb.toNat i)) := by
  have hh := Rnd.valid_head hv
  refine (Rnd.sol_iff r off _).2 ⟨fun b hb hne => ?_, fun k hk => ?_⟩
  · have h9 := h.1 b (by omega) hne
    have e1 : upI r.nb.toNat (1 + b) = 1 + b := by unfold upI; rw [if_pos (by omega)]
    have e0 : upI r.nb.toNat 0 = 0 := by unfold upI; rw [if_pos (by omega)]
    simp only [e1, e0]
    exact h9
  · have h9 := h.2 k hk trivial
    have h8 := Rnd.valid_trip hv hk
    have e1 : upI r.nb.toNat (1 + (r.t k).b.toNat) = 1 + (r.t k).b.toNat := by unfold upI; rw [if_pos (by omega)]
    have e0 : upI r.nb.toNat (1 + r.nb.toNat + (r.t k).m.toNat) = 7 + (r.t k).m.toNat := by unfold upI; rw [if_neg (by omega)]; omega
    unfold Trp.C at h9
    simp only [e1, e0]
    exact h9
theorem Rnd.rules_fine {r : Rnd} (hv : r.valid = true) (off : Int) : FineR (1 + r.nb.toNat + r.nm.toNat) (r.rulesR off r.n r.t) := by
  have hh := Rnd.valid_head hv
  refine tripR_fine (benR_fine hh.2.2.1.1 hh.2.2.1.2 _ (by omega)) r.n fun k hk => ?_
  have h8 := Rnd.valid_trip hv hk
  omega
/-- the document's fits is the program's -/
theorem Rnd.fits_doc {r : Rnd} (hv : r.valid = true) (off : Int) : (∃ q, q ≤ 1 + r.nb.toNat + r.nm.toNat ∧ stillR (r.rulesR off r.n r.t).2 (itR (r.rulesR off r.n r.t).2 (r.rulesR off r.n r.t).1 (fun _ => 0) q) (r.rulesR off r.n r.t).1 = true) ↔ okT (r.D off) = true := by
  rw [zeros_law (fun j hj => ((Rnd.rules_fine hv off) j hj).1), Rnd.D_ok hv]
  exact ⟨fun ⟨x, h⟩ => ⟨_, Rnd.sol_up hv h⟩, fun ⟨x, h⟩ => ⟨_, Rnd.sol_dn hv h⟩⟩
/-- how much one number can be above another one, as the document says it -/
def Rnd.abv (r : Rnd) (off : Int) (a b : Nat) : Int := if r.D off (upI r.nb.toNat a) (upI r.nb.toNat b) < 1099511627776 then r.D off (upI r.nb.toNat a) (upI r.nb.toNat b) else 1073741824
theorem Rnd.above_doc {r : Rnd} (hv : r.valid = true) {off : Int} (hok : okT (r.D off) = true) {a b : Nat} (ha : a < 1 + r.nb.toNat + r.nm.toNat) (hb : b < 1 + r.nb.toNat + r.nm.toNat) :
    (∃ q, q ≤ 1 + r.nb.toNat + r.nm.toNat ∧ stillR (r.rulesR off r.n r.t).2 (itR (r.rulesR off r.n r.t).2 (r.rulesR off r.n r.t).1 (fromB b) q) (r.rulesR off r.n r.t).1 = true) ∧ ∀ q, q ≤ 1 + r.nb.toNat + r.nm.toNat → stillR (r.rulesR off r.n r.t).2 (itR (r.rulesR off r.n r.t).2 (r.rulesR off r.n r.t).1 (fromB b) q) (r.rulesR off r.n r.t).1 = true → itR (r.rulesR off r.n r.t).2 (r.rulesR off r.n r.t).1 (fromB b) q a = r.abv off a b := by
  have hh := Rnd.valid_head hv
  have hF := Rnd.rules_fine hv off
  have hnl := r.rulesR_le off r.n r.t (by omega)
  have hnb : r.nb.toNat ≤ 6 := by omega
  have hnm : r.nm.toNat ≤ 6 := by omega
  have hn1 : (r.rulesR off r.n r.t).1 ≤ 100 := by omega
  have hN1 : 1 + r.nb.toNat + r.nm.toNat ≤ 100 := by omega
  clear hh hnl
  obtain ⟨x0, hx0⟩ := (Rnd.D_ok hv off).1 hok
  have h1 := above_law (fun j hj => (hF j hj).1) (fun j hj => (hF j hj).2) hn1 hN1 ⟨_, Rnd.sol_dn hv hx0⟩ ha hb
  refine ⟨h1.1, fun q hq hst => ?_⟩
  obtain ⟨h2, h3⟩ := h1.2 q hq hst
  obtain ⟨v, hvv⟩ : ∃ v, v = itR (r.rulesR off r.n r.t).2 (r.rulesR off r.n r.t).1 (fromB b) q a := ⟨_, rfl⟩
  rw [← hvv] at h2 h3 ⊢
  clear hvv h1 hst hx0 hF hn1 hN1
  have ua := up_lt (nb := r.nb.toNat) (nm := r.nm.toNat) hnb hnm ha
  have ub := up_lt (nb := r.nb.toNat) (nm := r.nm.toNat) hnb hnm hb
  unfold Rnd.abv
  by_cases hf : r.D off (upI r.nb.toNat a) (upI r.nb.toNat b) < 1099511627776
  · rw [if_pos hf]
    obtain ⟨d1, x, d2, d3⟩ := Rnd.D_lt hv hok ua ub hf
    have hup : ∀ y, SolR (r.rulesR off r.n r.t).2 (r.rulesR off r.n r.t).1 y → y a - y b ≤ r.D off (upI r.nb.toNat a) (upI r.nb.toNat b) := fun y hy => by
      have h9 := d1 _ (Rnd.sol_up hv hy)
      simp only [dn_up hnb] at h9
      exact h9
    by_cases hn : v = 1073741824
    · obtain ⟨y, h8, h9⟩ := h2 hn (r.D off (upI r.nb.toNat a) (upI r.nb.toNat b) + 1)
      have := hup y h8
      generalize r.D off (upI r.nb.toNat a) (upI r.nb.toNat b) = D at *
      clear hup h2 h3 h8
      omega
    · obtain ⟨-, h8, y, h9, h10⟩ := h3 hn
      have e1 := hup y h9
      have e2 := h8 _ (Rnd.sol_dn hv d2)
      generalize r.D off (upI r.nb.toNat a) (upI r.nb.toNat b) = D at *
      clear hup h2 h3 h8 h9
      omega
  · rw [if_neg hf]
    by_cases hn : v = 1073741824
    · exact hn
    · obtain ⟨-, h8, -⟩ := h3 hn
      obtain ⟨x, d1, d2⟩ := Rnd.D_far hv hok ua ub hf (v + 1)
      have e2 := h8 _ (Rnd.sol_dn hv d1)
      clear h2 h3 h8
      omega
end Go.Proofs.YtldodmfmibeoiaaDoor
