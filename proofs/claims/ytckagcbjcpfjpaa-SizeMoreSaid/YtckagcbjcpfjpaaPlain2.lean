/- Plain facts of this seat on sums by sets; no program in sight. -/
import Derived.Test.YtckagcbjcpfjpaaPlain
import Derived.Lib.BitFns
namespace Go.Proofs.Ytckagcbjcpfjpaa
open Go.RowKit
theorem all_lt {n : Nat} {p : Nat → Bool} (h : (List.range n).all p = true) (x : Nat) (hx : x < n) : p x = true := List.all_eq_true.1 h x (List.mem_range.2 hx)
def lastFacts (s : Nat) : Bool :=
  s == 0 || (let L := Lib.bitLen s - 1
    Lib.bitLen s == L + 1 && decide (L < 10) && bits BinOp.andNot IntKind.i64 s (IntKind.i64.wrap (2 ^ L)) == ((s - 2 ^ L : Nat) : Int) && decide (s - 2 ^ L < s) && bitAt s L &&
    (List.range 10).all (fun k => bitAt (s - 2 ^ L) k == (bitAt s k && k != L)) && (List.range 11).all (fun n => !decide (s < 2 ^ n) || decide (L < n)))
theorem lastFacts_all : (List.range 1024).all lastFacts = true := by decide +kernel
theorem last_of (s : Nat) (h0 : s ≠ 0) (hs : s < 1024) : ∃ L, Lib.bitLen s = L + 1 ∧ L < 10 ∧ bits BinOp.andNot IntKind.i64 s (IntKind.i64.wrap (2 ^ L)) = ((s - 2 ^ L : Nat) : Int) ∧ s - 2 ^ L < s ∧ bitAt s L = true ∧
    (∀ k, k < 10 → bitAt (s - 2 ^ L) k = (bitAt s k && k != L)) ∧ ∀ n, n ≤ 10 → s < 2 ^ n → L < n := by
  have h := all_lt lastFacts_all s hs
  simp only [lastFacts, Bool.or_eq_true, beq_iff_eq, h0, false_or, Bool.and_eq_true, decide_eq_true_eq] at h
  obtain ⟨⟨⟨⟨⟨⟨h1, h2⟩, h3⟩, h4⟩, h5⟩, h6⟩, h7⟩ := h
  refine ⟨Lib.bitLen s - 1, h1, h2, h3, h4, h5, fun k hk => ?_, fun n hn hsn => ?_⟩
  · have := all_lt h6 k hk
    exact beq_iff_eq.1 this
  · have := all_lt h7 n (by omega)
    simp only [Bool.or_eq_true, Bool.not_eq_true', decide_eq_false_iff_not, decide_eq_true_eq] at this
    exact this.resolve_left (fun h => h hsn)
/-- a sum over k below n -/
def sumN : Nat → (Nat → Int) → Int
  | 0, _ => 0
  | n + 1, f => sumN n f + f n
def maxN : Nat → (Nat → Int) → Int
  | 0, _ => 0
  | n + 1, f => max (maxN n f) (f n)
theorem sumN_congr {n : Nat} {f g : Nat → Int} (h : ∀ k, k < n → f k = g k) : sumN n f = sumN n g := by
  induction n with
  | zero => rfl
  | succ n ih => simp only [sumN]; rw [ih (fun k hk => h k (by omega)), h n (by omega)]
theorem maxN_congr {n : Nat} {f g : Nat → Int} (h : ∀ k, k < n → f k = g k) : maxN n f = maxN n g := by
  induction n with
  | zero => rfl
  | succ n ih => simp only [maxN]; rw [ih (fun k hk => h k (by omega)), h n (by omega)]
/-- one summand more -/
theorem sumN_add {n L : Nat} {f g : Nat → Int} {v : Int} (hL : L < n) (h : ∀ k, k < n → k ≠ L → f k = g k) (hg : g L = 0) (hf : f L = v) : sumN n f = sumN n g + v := by
  induction n with
  | zero => omega
  | succ n ih =>
    simp only [sumN]
    by_cases e : L = n
    · subst e
      rw [sumN_congr (fun k hk => h k (by omega) (by omega)), hg, hf]; omega
    · rw [ih (by omega) (fun k hk => h k (by omega)), h n (by omega) (fun h => e h.symm)]; omega
theorem maxN_nonneg {n : Nat} {f : Nat → Int} : 0 ≤ maxN n f := by
  induction n with
  | zero => exact Int.le_refl _
  | succ n ih => simp only [maxN]; omega
theorem maxN_add {n L : Nat} {f g : Nat → Int} {v : Int} (hL : L < n) (h : ∀ k, k < n → k ≠ L → f k = g k) (hg : g L = 0) (hf : f L = v) : maxN n f = max (maxN n g) v := by
  induction n with
  | zero => omega
  | succ n ih =>
    simp only [maxN]
    by_cases e : L = n
    · subst e
      have := maxN_nonneg (n := L) (f := g)
      rw [maxN_congr (fun k hk => h k (by omega) (by omega)), hg, hf]; omega
    · rw [ih (by omega) (fun k hk => h k (by omega)), h n (by omega) (fun h => e h.symm)]; omega
theorem sumN_bd {n : Nat} {f : Nat → Int} {b : Int} (h : ∀ k, k < n → 0 ≤ f k ∧ f k ≤ b) : 0 ≤ sumN n f ∧ sumN n f ≤ n * b := by
  induction n with
  | zero => simp [sumN]
  | succ n ih =>
    have := ih (fun k hk => h k (by omega))
    have h2 := h n (by omega)
    simp only [sumN]
    have e : ((n + 1 : Nat) : Int) * b = n * b + b := by rw [Int.natCast_add, Int.add_mul]; simp
    rw [e]; omega
end Go.Proofs.Ytckagcbjcpfjpaa
