/- The pair that Pair finds is the cheapest, and the first one of those that cost the same. -/
import Derived.Test.YtckagcbjcpfjpaaS9
namespace Go.Proofs.Ytckagcbjcpfjpaa
open Go.RowKit
def pr (t : Nat → Meter) (a b : Nat) : Int := (t a).price + (t b).price
structure IsBest (h : House) (t : Nat → Meter) (S : Nat → Nat → Prop) (c : Cheap) : Prop where
  no : c.is = false → ∀ a b, S a b → h.pairB t a b = false
  yes : c.is = true → S c.i c.k ∧ h.pairB t c.i c.k = true ∧ c.price = pr t c.i c.k ∧ ∀ a b, S a b → h.pairB t a b = true → c.price < pr t a b ∨ (c.price = pr t a b ∧ (c.i < a ∨ (c.i = a ∧ c.k ≤ b)))
theorem IsBest.congr {h : House} {t : Nat → Meter} {S S' : Nat → Nat → Prop} {c : Cheap} (hb : IsBest h t S c) (he : ∀ a b, S a b ↔ S' a b) : IsBest h t S' c :=
  ⟨fun hi a b hs => hb.no hi a b ((he a b).2 hs), fun hi => by
    obtain ⟨h1, h2, h3, h4⟩ := hb.yes hi
    exact ⟨(he _ _).1 h1, h2, h3, fun a b hs => h4 a b ((he a b).2 hs)⟩⟩
theorem IsBest.step {h : House} {t : Nat → Meter} {S : Nat → Nat → Prop} {c : Cheap} (hb : IsBest h t S c) (x y : Nat) (hS : ∀ a b, S a b → a < x ∨ (a = x ∧ b < y)) :
    IsBest h t (fun a b => S a b ∨ (a = x ∧ b = y)) (h.pairStep t x y c) := by
  cases hp : h.pairB t x y with
  | false =>
    rw [pairStep_no hp]
    refine ⟨fun hi a b hs => ?_, fun hi => ?_⟩
    · rcases hs with hs | ⟨rfl, rfl⟩
      · exact hb.no hi a b hs
      · exact hp
    · obtain ⟨h1, h2, h3, h4⟩ := hb.yes hi
      refine ⟨.inl h1, h2, h3, fun a b hs hab => ?_⟩
      rcases hs with hs | ⟨rfl, rfl⟩
      · exact h4 a b hs hab
      · rw [hp] at hab; cases hab
  | true =>
    cases hi : c.is with
    | false =>
      rw [pairStep_new hp hi]
      refine ⟨fun hj => (by cases hj), fun _ => ⟨.inr ⟨rfl, rfl⟩, hp, rfl, fun a b hs hab => ?_⟩⟩
      rcases hs with hs | ⟨rfl, rfl⟩
      · rw [hb.no hi a b hs] at hab; cases hab
      · exact .inr ⟨rfl, .inr ⟨rfl, Nat.le_refl _⟩⟩
    | true =>
      obtain ⟨h1, h2, h3, h4⟩ := hb.yes hi
      by_cases hlt : (t x).price + (t y).price < c.price
      · rw [pairStep_less hp hlt]
        refine ⟨fun hj => (by cases hj), fun _ => ⟨.inr ⟨rfl, rfl⟩, hp, rfl, fun a b hs hab => ?_⟩⟩
        rcases hs with hs | ⟨rfl, rfl⟩
        · left
          have := h4 a b hs hab
          show (t x).price + (t y).price < pr t a b
          rcases this with h5 | ⟨h5, _⟩ <;> omega
        · exact .inr ⟨rfl, .inr ⟨rfl, Nat.le_refl _⟩⟩
      · rw [pairStep_keep hp hi hlt]
        refine ⟨fun hj => (by rw [hi] at hj; cases hj), fun _ => ⟨.inl h1, h2, h3, fun a b hs hab => ?_⟩⟩
        rcases hs with hs | ⟨rfl, rfl⟩
        · exact h4 a b hs hab
        · have h6 : c.price ≤ pr t a b := by
            show c.price ≤ (t a).price + (t b).price
            omega
          have h7 := hS _ _ h1
          by_cases h8 : c.price = pr t a b
          · exact .inr ⟨h8, by omega⟩
          · exact .inl (by omega)
theorem pairIn_best {h : House} {t : Nat → Meter} {n j : Nat} {c : Cheap} (hb : IsBest h t (fun a b => a < b ∧ b < n ∧ a < j) c) : ∀ m, j + 1 + m ≤ n → IsBest h t (fun a b => a < b ∧ b < n ∧ (a < j ∨ (a = j ∧ b ≤ j + m))) (h.pairIn t j c m) := by
  intro m
  induction m with
  | zero => exact fun _ => hb.congr fun a b => by constructor <;> intro hh <;> omega
  | succ m ih =>
    intro hm
    have h1 := (ih (by omega)).step j (j + 1 + m) (fun a b hs => by omega)
    exact h1.congr fun a b => by constructor <;> intro hh <;> omega
theorem pairOut_best {h : House} {t : Nat → Meter} {n : Nat} : ∀ j, j ≤ n → IsBest h t (fun a b => a < b ∧ b < n ∧ a < j) (h.pairOut t n j) := by
  intro j
  induction j with
  | zero => exact fun _ => ⟨fun _ a b hs => (by omega), fun hi => (by cases hi)⟩
  | succ j ih =>
    intro hj
    have h1 := pairIn_best (ih (by omega)) (n - (j + 1)) (by omega)
    exact h1.congr fun a b => by constructor <;> intro hh <;> omega
/-- what Pair says of a list that is valid -/
theorem pair_cases {h : House} {n : Nat} {t : Nat → Meter} (hv : h.valid = true) (hl : listB n t = true) :
    (h.pairR n t = (0, 0, 0, 4) ∧ ∀ a b, a < n → b < n → h.goodP t a b = false) ∨
    (∃ i k, h.pairR n t = (i, k, pr t i k, 0) ∧ i < k ∧ k < n ∧ h.goodP t i k = true ∧ ∀ a b, a < n → b < n → h.goodP t a b = true → pr t i k < pr t a b ∨ (pr t i k = pr t a b ∧ (i < a ∨ (i = a ∧ k ≤ b)))) := by
  have hb := pairOut_best (h := h) (t := t) (n := n) n (Nat.le_refl _)
  unfold House.pairR
  rw [if_pos (errB_ok hv hl)]
  cases hi : (h.pairOut t n n).is with
  | false =>
    refine .inl ⟨by simp, fun a b ha hb9 => ?_⟩
    by_cases hab : a < b
    · have := hb.no hi a b ⟨hab, hb9, ha⟩
      simp [House.goodP, this]
    · simp [House.goodP, hab]
  | true =>
    obtain ⟨⟨h1, h2, h3⟩, h4, h5, h6⟩ := hb.yes hi
    refine .inr ⟨(h.pairOut t n n).i, (h.pairOut t n n).k, by rw [if_pos rfl, h5], h1, h2, by simp [House.goodP, h1, h4], fun a b ha hb9 hg => ?_⟩
    simp only [House.goodP, Bool.and_eq_true, decide_eq_true_eq] at hg
    rw [← h5]
    exact h6 a b ⟨hg.1, hb9, ha⟩ hg.2
end Go.Proofs.Ytckagcbjcpfjpaa
