/- Travel, plain: a round whose trips are true; what the law of the truth asks of it. -/
import Derived.Test.YtldodmfmibeoiaaDoorP8
namespace Go.Proofs.YtldodmfmibeoiaaDoor
open Go.RowKit
structure Truth (r : Rnd) (F E : Nat → Int) (off : Int) : Prop where
  nb : 1 ≤ r.nb ∧ r.nb ≤ 6
  nm : 1 ≤ r.nm ∧ r.nm ≤ 6
  most : 0 ≤ r.most ∧ r.most ≤ 255
  n : r.n ≤ 14
  ofs : -1 ≤ off ∧ off < r.nb
  fault : ∀ b : Nat, (b : Int) < r.nb → (-600 ≤ F b ∧ F b ≤ 600) ∧ ((b : Int) ≠ off → -r.most ≤ F b ∧ F b ≤ r.most)
  error : ∀ m : Nat, (m : Int) < r.nm → -500 ≤ E m ∧ E m ≤ 500
  trip : ∀ k, k < r.n → (0 ≤ (r.t k).b ∧ (r.t k).b < r.nb) ∧ (0 ≤ (r.t k).m ∧ (r.t k).m < r.nm) ∧ (F (r.t k).b.toNat + E (r.t k).m.toNat - 5 ≤ (r.t k).lo ∧ (r.t k).lo ≤ F (r.t k).b.toNat + E (r.t k).m.toNat) ∧ (F (r.t k).b.toNat + E (r.t k).m.toNat ≤ (r.t k).hi ∧ (r.t k).hi ≤ F (r.t k).b.toNat + E (r.t k).m.toNat + 5)
def truX (F E : Nat → Int) : Nat → Int := fun j => if j = 0 then 0 else if j < 7 then -F (j - 1) else E (j - 7)
section
variable {r : Rnd} {F E : Nat → Int} {off : Int}
theorem truX_b {b : Nat} (hb : b < 6) : truX F E (1 + b) = -F b := by
  unfold truX
  rw [if_neg (by omega), if_pos (by omega), show 1 + b - 1 = b by omega]
theorem truX_m (m : Nat) : truX F E (7 + m) = E m := by
  unfold truX
  rw [if_neg (by omega), if_neg (by omega), show 7 + m - 7 = m by omega]
theorem Truth.err (h : Truth r F E off) : r.err off = 0 := by
  have h1 := h.nb
  have h2 := h.most
  have h3 := h.ofs
  refine Rnd.err_mk (Rnd.valid_mk h.nb h.nm (by omega) h.n fun i hi => ?_) (by omega)
  obtain ⟨a, b, c, d⟩ := h.trip i hi
  have f := (h.fault (r.t i).b.toNat (by omega)).1
  have e := h.error (r.t i).m.toNat (by omega)
  omega
theorem Truth.ca (h : Truth r F E off) : r.CA off (truX F E) := by
  have h1 := h.nb
  have h2 := h.most
  have h3 := h.nm
  refine ⟨fun b hb hne => ?_, fun k hk _ => ?_⟩
  · have f := (h.fault b hb).2 hne
    rw [truX_b (by omega), show truX F E 0 = 0 from rfl]
    omega
  · obtain ⟨a, b, c, d⟩ := h.trip k hk
    unfold Trp.C
    rw [truX_m, truX_b (by omega)]
    omega
theorem Truth.fits (h : Truth r F E off) : r.fitsB off = true := (true_fits h.err h.ca).2
theorem Truth.clash (h : Truth r F E off) {w w' : World} {e : Ending} (hp : ClashPost r off w e w') : e = .returned (.tuple #[.slice none 0 0, .int .i64 4]) ∧ Below w.heap.size w w' := by
  obtain ⟨hb, h1 | ⟨-, -, rfl⟩ | ⟨-, best, hc, -⟩⟩ := hp
  · exact absurd h.err h1.1
  · exact ⟨rfl, hb⟩
  · have := true_clash h.err h.ca hc.1
    rw [hc.2.1] at this
    cases this
theorem Truth.told (h : Truth r F E off) {b : Nat} (hb : (b : Int) < r.nb) :
    ((r.fault off b).e = 0 ∧ ((r.fault off b).lo ≤ F b ∧ F b ≤ (r.fault off b).hi) ∧ ((b : Int) = off ∨ (-r.most ≤ (r.fault off b).lo ∧ (r.fault off b).hi ≤ r.most))) ∨ ((r.fault off b).e = 4 ∧ (b : Int) = off) := by
  have h1 := h.nb
  have hk : 1 + (b : Int).toNat < 13 := by omega
  obtain ⟨e0, t⟩ := true_tell (turn := true) h.err h.ca (i := b) (many := r.nb) ⟨by omega, hb⟩ hk
  rw [if_pos rfl, show (b : Int).toNat = b by omega, truX_b (by omega), show truX F E 0 = 0 from rfl, show 0 - -F b = F b by omega] at t
  rw [show (b : Int).toNat = b by omega] at e0
  have hf : r.fault off b = r.tell off b r.nb (1 + b) true := by
    show r.tell off b r.nb (1 + (b : Int).toNat) true = _
    rw [show (b : Int).toNat = b by omega]
  by_cases hne : (b : Int) = off
  · rw [hf]
    rcases e0 with e0 | e0
    · exact .inl ⟨e0, t e0, .inl hne⟩
    · exact .inr ⟨e0, hne⟩
  · obtain ⟨q0, q1, q2⟩ := true_right h.err h.ca (i := b) ⟨by omega, hb⟩ hne
    rw [hf] at q0 q1 q2 ⊢
    exact .inl ⟨q0, t q0, .inr ⟨q1, q2⟩⟩
theorem Truth.tells (h : Truth r F E off) {m : Nat} (hm : (m : Int) < r.nm) :
    ((r.error off m).e = 0 ∧ (r.error off m).lo ≤ E m ∧ E m ≤ (r.error off m).hi) ∨ (r.error off m).e = 4 := by
  have h1 := h.nm
  have hk : 7 + m < 13 := by omega
  obtain ⟨e0, t⟩ := true_tell (turn := false) h.err h.ca (i := m) (many := r.nm) ⟨by omega, hm⟩ hk
  rw [if_neg (by simp), truX_m, show truX F E 0 = 0 from rfl, Int.sub_zero] at t
  have hf : r.error off m = r.tell off m r.nm (7 + m) false := by
    show r.tell off m r.nm (7 + (m : Int).toNat) false = _
    rw [show (m : Int).toNat = m by omega]
  rw [hf]
  rcases e0 with e0 | e0
  · exact .inl ⟨e0, t e0⟩
  · exact .inr e0
theorem Truth.conv (h : Truth r F E off) : (r.convict.2 = 0 → r.convict.1 = off) ∧ (r.convict.2 = 0 ∨ r.convict.2 = 4 ∨ r.convict.2 = 12) ∧ (off < 0 → r.convict.2 = 4) := true_convict h.err h.ca
end
end Go.Proofs.YtldodmfmibeoiaaDoor
