/- TopRing, plain: a round whose trips were found by benches of which all but one at most are right; what the program tells of it. -/
import Derived.Test.YtlofopnjjeeehaaDoorP8
namespace Go.Proofs.YtlofopnjjeeehaaDoor
open Go.RowKit
structure Ring (nb nm n : Nat) (t : Nat → Trp) (E : Nat → Int) (off tank : Int) : Prop where
  trip : ∀ k, k < n → (0 ≤ (t k).b ∧ (t k).b < nb) ∧ (0 ≤ (t k).m ∧ (t k).m < nm) ∧ (-100000 ≤ (t k).lo ∧ (t k).lo ≤ (t k).hi ∧ (t k).hi ≤ 100000) ∧ ((t k).b ≠ off ∨ tank = 0 → (t k).lo ≤ E (t k).m.toNat ∧ E (t k).m.toNat ≤ (t k).hi)
  cov : ∀ k, k < n → k < nm → (t k).m = k
theorem Ring.start (nb nm : Nat) (t : Nat → Trp) (E : Nat → Int) (off tank : Int) : Ring nb nm 0 t E off tank := ⟨fun k hk => by omega, fun k hk => by omega⟩
theorem Ring.put {nb nm b m : Nat} {t : Nat → Trp} {E : Nat → Int} {off tank lo hi : Int} (h : Ring nb nm (b * nm + m) t E off tank) (hb : b < nb) (hm : m < nm) (h1 : -100000 ≤ lo ∧ lo ≤ hi ∧ hi ≤ 100000) (h2 : (b : Int) ≠ off ∨ tank = 0 → lo ≤ E m ∧ E m ≤ hi) :
    Ring nb nm (b * nm + m + 1) (fun c => if c = b * nm + m then ⟨b, m, lo, hi⟩ else t c) E off tank := by
  refine ⟨fun k hk => ?_, fun k hk hkm => ?_⟩
  · by_cases he : k = b * nm + m
    · rw [if_pos he]
      exact ⟨by dsimp only; omega, by dsimp only; omega, h1, h2⟩
    · rw [if_neg he]
      exact h.trip k (by omega)
  · by_cases he : k = b * nm + m
    · rw [if_pos he]
      have hb0 : b = 0 := by
        by_cases h0 : b = 0
        · exact h0
        · have : 1 * nm ≤ b * nm := Nat.mul_le_mul_right nm (by omega)
          omega
      subst hb0
      dsimp only
      omega
    · rw [if_neg he]
      exact h.cov k (by omega) hkm
/-- the round at its end -/
abbrev ringR (nb nm : Nat) (t : Nat → Trp) : Rnd := ⟨nb, nm, 0, nb * nm, t⟩
def ringX (E : Nat → Int) : Nat → Int := fun j => if j < 7 then 0 else E (j - 7)
section
variable {nb nm : Nat} {t : Nat → Trp} {E : Nat → Int} {off tank : Int}
theorem Ring.valid (h : Ring nb nm (nb * nm) t E off tank) (h1 : 1 ≤ nb ∧ nb ≤ 4) (h2 : 1 ≤ nm ∧ nm ≤ 3) : (ringR nb nm t).valid = true := by
  refine Rnd.valid_mk (r := ringR nb nm t) (by dsimp only; omega) (by dsimp only; omega) (by dsimp only; omega) ?_ fun i hi => ?_
  · have : nb * nm ≤ 4 * 3 := Nat.mul_le_mul h1.2 h2.2
    show nb * nm ≤ 14
    omega
  · obtain ⟨a, b, c, -⟩ := h.trip i hi
    exact ⟨a.1, a.2, b.1, b.2, c⟩
theorem Ring.err (h : Ring nb nm (nb * nm) t E off tank) (h1 : 1 ≤ nb ∧ nb ≤ 4) (h2 : 1 ≤ nm ∧ nm ≤ 3) {o : Int} (ho : -1 ≤ o ∧ o < nb) : (ringR nb nm t).err o = 0 :=
  Rnd.err_mk (h.valid h1 h2) (by dsimp only; omega)
theorem Ring.ca (h : Ring nb nm (nb * nm) t E off tank) (hs : off < 0 ∨ tank = 0) (h1 : 1 ≤ nb ∧ nb ≤ 4) : (ringR nb nm t).CA (-1) (ringX E) := by
  refine ⟨fun b hb _ => ?_, fun k hk _ => ?_⟩
  · have hb : (b : Int) < (nb : Int) := hb
    show (if 1 + b < 7 then (0 : Int) else _) - (0 : Int) ≤ 0 ∧ (0 : Int) - (if 1 + b < 7 then (0 : Int) else _) ≤ 0
    rw [if_pos (by omega)]
    omega
  · obtain ⟨a, b, c, d⟩ := h.trip k hk
    have d' := d (by omega)
    show (if 7 + (t k).m.toNat < 7 then (0 : Int) else E (7 + (t k).m.toNat - 7)) - (if 1 + (t k).b.toNat < 7 then (0 : Int) else _) ≤ (t k).hi ∧ (if 1 + (t k).b.toNat < 7 then (0 : Int) else _) - (if 7 + (t k).m.toNat < 7 then (0 : Int) else E (7 + (t k).m.toNat - 7)) ≤ -(t k).lo
    rw [if_neg (by omega), if_pos (by omega), show 7 + (t k).m.toNat - 7 = (t k).m.toNat by omega]
    omega
theorem Ring.fine (h : Ring nb nm (nb * nm) t E off tank) (hs : off < 0 ∨ tank = 0) (h1 : 1 ≤ nb ∧ nb ≤ 4) (h2 : 1 ≤ nm ∧ nm ≤ 3) : (ringR nb nm t).fitsB (-1) = true ∧ (ringR nb nm t).err (-1) = 0 ∧ (ringR nb nm t).convict.2 = 4 := by
  have he := h.err h1 h2 (o := -1) (by omega)
  have hc := h.ca hs h1
  exact ⟨(true_fits he hc).2, he, (true_convict he hc).2.2 (by omega)⟩
theorem Ring.tells (h : Ring nb nm (nb * nm) t E off tank) (hs : off < 0 ∨ tank = 0) (h1 : 1 ≤ nb ∧ nb ≤ 4) (h2 : 1 ≤ nm ∧ nm ≤ 3) {m : Nat} (hm : m < nm) :
    ((ringR nb nm t).error (-1) m).e = 0 ∧ ((ringR nb nm t).error (-1) m).lo ≤ E m ∧ E m ≤ ((ringR nb nm t).error (-1) m).hi := by
  have he := h.err h1 h2 (o := -1) (by omega)
  have hc := h.ca hs h1
  have hv := h.valid h1 h2
  have ho := (true_fits he hc).1
  have hk : 7 + m < 13 := by omega
  have hmn : m < nb * nm := by
    have : 1 * nm ≤ nb * nm := Nat.mul_le_mul_right nm h1.1
    omega
  have ht := h.trip m hmn
  have hcv := h.cov m hmn hm
  have v : ∀ y, (ringR nb nm t).CA (-1) y → y (7 + m) - y 0 ≤ (t m).hi ∧ y 0 - y (7 + m) ≤ -(t m).lo := fun y hy => by
    have q := hy.2 m hmn trivial
    have p := hy.1 (t m).b.toNat (by show ((t m).b.toNat : Int) < (nb : Int); omega) (by omega)
    unfold Trp.C at q
    rw [show (ringR nb nm t).t m = t m from rfl, hcv] at q
    rw [show (ringR nb nm t).most = 0 from rfl] at p
    rw [show ((m : Int)).toNat = m by omega] at q
    omega
  have g1 := Rnd.fin_of hv ho hk (by omega) (fun y hy => (v y hy).1)
  have g2 := Rnd.fin_of hv ho (by omega) hk (fun y hy => (v y hy).2)
  have hi9 : withinB (m : Int) 0 ((nm : Int) - 1) = true := by simp only [withinB, decide_eq_true_eq]; omega
  have e0 : ((ringR nb nm t).tell (-1) m nm (7 + m) false).e = 0 := by
    rw [Rnd.tell_fin (turn := false) he hi9 ho g1 g2]
    rfl
  obtain ⟨-, tt⟩ := true_tell (turn := false) he hc (i := m) (many := nm) ⟨by omega, by omega⟩ hk
  have t1 := tt e0
  rw [if_neg (by simp), show ringX E (7 + m) = E m by unfold ringX; rw [if_neg (by omega), show 7 + m - 7 = m by omega], show ringX E 0 = 0 from rfl, Int.sub_zero] at t1
  have hf : (ringR nb nm t).error (-1) m = (ringR nb nm t).tell (-1) m nm (7 + m) false := by
    show (ringR nb nm t).tell (-1) m nm (7 + (m : Int).toNat) false = _
    rw [show (m : Int).toNat = m by omega]
  rw [hf]
  exact ⟨e0, t1⟩
/-- while the suspicion of the bench that is off fits, no other one is convicted -/
theorem Ring.one (h : Ring nb nm (nb * nm) t E off tank) (h1 : 1 ≤ nb ∧ nb ≤ 4) (h2 : 1 ≤ nm ∧ nm ≤ 3) (ho : 0 ≤ off ∧ off < nb) : (ringR nb nm t).err off = 0 ∧ ((ringR nb nm t).fitsB off = true → (ringR nb nm t).convict.2 = 0 → (ringR nb nm t).convict.1 = off) := by
  have he := h.err h1 h2 (o := off) (by omega)
  refine ⟨he, fun hf hc => ?_⟩
  rw [fits_err he] at hf
  obtain ⟨x, hx⟩ := (Rnd.D_ok (h.valid h1 h2) off).1 hf
  exact (true_convict he hx).1 hc
end
end Go.Proofs.YtlofopnjjeeehaaDoor
