/- Travel, plain: what numbers keep the table of a suspicion and a set of trips; the table is closed if it fits. -/
import Derived.Test.YtlofopnjjeeehaaDoorV6
namespace Go.Proofs.YtlofopnjjeeehaaDoor
open Go.RowKit
theorem Gd.min {D : T13} (h : Gd D) {i k : Nat} {n : Int} (hne : i ≠ k) (h0 : -100000 ≤ n) (h1 : n ≤ 100000) : Gd (minT D i k n) :=
  ⟨fun a ha => by rw [minT_at, if_neg (by omega)]; exact h.diag a ha, fun a b ha hb => by
    have h9 := h.bd a b ha hb
    rw [minT_at]
    split
    · rename_i h8
      rw [h8.1, h8.2] at h9
      by_cases h7 : D i k < 1099511627776
      · have := h9.2 h7; omega
      · omega
    · exact h9⟩
theorem sat_min {D : T13} {x : Nat → Int} {i k : Nat} {n : Int} (hi : i < 13) (hk : k < 13) (hn : n < 1099511627776) : Sat (minT D i k n) x ↔ Sat D x ∧ x i - x k ≤ n := by
  constructor
  · intro h
    refine ⟨fun a b ha hb h9 => ?_, ?_⟩
    · have h8 := h a b ha hb
      rw [minT_at] at h8
      by_cases h7 : a = i ∧ b = k
      · obtain ⟨rfl, rfl⟩ := h7
        rw [if_pos ⟨rfl, rfl⟩] at h8
        have := h8 (by omega)
        omega
      · rw [if_neg h7] at h8
        exact h8 h9
    · have h8 := h i k hi hk
      rw [minT_at, if_pos ⟨rfl, rfl⟩] at h8
      have := h8 (by omega)
      omega
  · intro h a b ha hb h9
    rw [minT_at] at h9 ⊢
    by_cases h7 : a = i ∧ b = k
    · obtain ⟨rfl, rfl⟩ := h7
      rw [if_pos ⟨rfl, rfl⟩] at h9 ⊢
      have h1 := h.2
      by_cases h8 : D a b < 1099511627776
      · have := h.1 a b ha hb h8; omega
      · omega
    · rw [if_neg h7] at h9 ⊢
      exact h.1 a b ha hb h9
theorem gd_init : Gd initT := ⟨fun i _ => by simp [initT], fun i k _ _ => by
  unfold initT
  by_cases h : i = k
  · rw [if_neg (by omega)]; omega
  · rw [if_pos h]; omega⟩
theorem sat_init (x : Nat → Int) : Sat initT x := fun i k _ _ h => by
  unfold initT at h ⊢
  by_cases h9 : i = k
  · subst h9; rw [if_neg (by omega)]; omega
  · rw [if_pos h9] at h; omega
theorem bench_facts {most off : Int} (h0 : 0 ≤ most) (h1 : most ≤ 100000) : ∀ {k : Nat}, k ≤ 6 → Gd (benchT most off k initT) ∧ ∀ x, Sat (benchT most off k initT) x ↔ ∀ b : Nat, b < k → (b : Int) ≠ off → x (1 + b) - x 0 ≤ most ∧ x 0 - x (1 + b) ≤ most
  | 0, _ => ⟨gd_init, fun x => ⟨fun _ b hb => by omega, fun _ => sat_init x⟩⟩
  | k + 1, hk => by
    obtain ⟨g, s⟩ := bench_facts h0 h1 (off := off) (k := k) (by omega)
    show Gd (benchK most off k _) ∧ ∀ x, Sat (benchK most off k _) x ↔ _
    unfold benchK
    by_cases h : (k : Int) = off
    · rw [if_pos h]
      refine ⟨g, fun x => (s x).trans ⟨fun h9 b hb hne => h9 b (by have h7 : b ≠ k := (fun e => hne (by rw [e]; exact h)); omega) hne, fun h9 b hb hne => h9 b (by omega) hne⟩⟩
    · rw [if_neg h]
      refine ⟨(g.min (by omega) (by omega) h1).min (by omega) (by omega) h1, fun x => ?_⟩
      rw [sat_min (by omega) (by omega) (by omega), sat_min (by omega) (by omega) (by omega), s x]
      constructor
      · intro h9 b hb hne
        by_cases h8 : b = k
        · subst h8; exact ⟨h9.1.2, h9.2⟩
        · exact h9.1.1 b (by omega) hne
      · intro h9
        exact ⟨⟨fun b hb hne => h9 b (by omega) hne, (h9 k (by omega) h).1⟩, (h9 k (by omega) h).2⟩
/-- numbers keep what a trip found -/
def Trp.C (t : Trp) (x : Nat → Int) : Prop := x (7 + t.m.toNat) - x (1 + t.b.toNat) ≤ t.hi ∧ x (1 + t.b.toNat) - x (7 + t.m.toNat) ≤ -t.lo
theorem trip_facts {t : Nat → Trp} : ∀ {l : List Nat} {D : T13}, Gd D → (∀ k ∈ l, (t k).ok) → Gd (tripT t l D) ∧ ∀ x, Sat (tripT t l D) x ↔ Sat D x ∧ ∀ k ∈ l, (t k).C x
  | [], D, g, _ => ⟨g, fun x => ⟨fun h => ⟨h, by simp⟩, fun h => h.1⟩⟩
  | k :: l, D, g, ho => by
    have h1 := ho k (by simp)
    unfold Trp.ok at h1
    have g2 : Gd (tripK (t k) D) := (g.min (by omega) (by omega) (by omega)).min (by omega) (by omega) (by omega)
    obtain ⟨g3, s3⟩ := trip_facts (t := t) (l := l) g2 (fun j hj => ho j (by simp [hj]))
    refine ⟨g3, fun x => (s3 x).trans ?_⟩
    unfold tripK
    rw [sat_min (by omega) (by omega) (by omega), sat_min (by omega) (by omega) (by omega)]
    constructor
    · intro h
      refine ⟨h.1.1.1, fun j hj => ?_⟩
      rcases List.mem_cons.1 hj with rfl | hj
      · exact ⟨h.1.1.2, h.1.2⟩
      · exact h.2 j hj
    · intro h
      have h9 := h.2 k (by simp)
      exact ⟨⟨⟨h.1, h9.1⟩, h9.2⟩, fun j hj => h.2 j (by simp [hj])⟩
theorem and_pred_bit {x k : Nat} (h0 : x ≠ 0) (hx : x < 18446744073709551616) : x.testBit k = (decide (k = Lib.ctz 64 x) || (x &&& (x - 1)).testBit k) := by
  obtain ⟨m, hm⟩ := ctz_dvd h0 hx
  generalize Lib.ctz 64 x = c at hm ⊢
  have h2 : 0 < 2 ^ c := Nat.two_pow_pos c
  have e1 : x = 2 ^ (c + 1) * m + 2 ^ c := by rw [hm, Nat.pow_succ, Nat.mul_add, Nat.mul_one, Nat.mul_assoc]
  have e2 : x - 1 = 2 ^ (c + 1) * m + (2 ^ c - 1) := by omega
  have l1 : 2 ^ c < 2 ^ (c + 1) := by rw [Nat.pow_succ]; omega
  have b1 : x.testBit k = if k < c + 1 then (2 ^ c).testBit k else m.testBit (k - (c + 1)) := by rw [e1]; exact Nat.testBit_two_pow_mul_add m l1 k
  have b2 : (x - 1).testBit k = if k < c + 1 then (2 ^ c - 1).testBit k else m.testBit (k - (c + 1)) := by rw [e2]; exact Nat.testBit_two_pow_mul_add m (by omega) k
  rw [Nat.testBit_and, b2, b1]
  by_cases h : k < c + 1
  · rw [if_pos h, if_pos h, Nat.testBit_two_pow, Nat.testBit_two_pow_sub_one]
    by_cases h9 : k = c
    · subst h9; simp
    · simp [h9, Ne.symm h9]
  · rw [if_neg h, if_neg h]
    have h9 : k ≠ c := by omega
    simp [h9]
theorem mem2_iff {k : Nat} : ∀ (x : Nat), x < 18446744073709551616 → (k ∈ mem2 x ↔ x.testBit k = true) := by
  intro x
  induction x using Nat.strongRecOn with
  | _ x ih =>
    intro hx
    by_cases h0 : x = 0
    · subst h0; rw [mem2_zero]; simp
    · have h1 : x &&& (x - 1) ≤ x - 1 := Nat.and_le_right
      rw [mem2_step h0, List.mem_cons, ih (x &&& (x - 1)) (by omega) (by omega), and_pred_bit (k := k) h0 hx]
      simp
theorem mem2_lt {x n k : Nat} (hn : n ≤ 14) (hx : x < 2 ^ n) (h : k ∈ mem2 x) : k < n := by
  have h2 : 2 ^ n ≤ 2 ^ 14 := Nat.pow_le_pow_right (by omega) hn
  have h3 : (2 : Nat) ^ 14 = 16384 := rfl
  have h4 := Nat.ge_two_pow_of_testBit ((mem2_iff x (by omega)).1 h)
  exact (Nat.pow_lt_pow_iff_right (by omega)).1 (Nat.lt_of_le_of_lt h4 hx)
theorem mem2_all {n k : Nat} (hn : n ≤ 14) : k ∈ mem2 (2 ^ n - 1) ↔ k < n := by
  have h2 : 2 ^ n ≤ 2 ^ 14 := Nat.pow_le_pow_right (by omega) hn
  have h3 : (2 : Nat) ^ 14 = 16384 := rfl
  rw [mem2_iff _ (by omega), Nat.testBit_two_pow_sub_one]
  simp
/-- numbers keep the bounds of a suspicion, and what some trips found -/
def Rnd.C (r : Rnd) (off : Int) (p : Nat → Prop) (x : Nat → Int) : Prop :=
  (∀ b : Nat, (b : Int) < r.nb → (b : Int) ≠ off → x (1 + b) - x 0 ≤ r.most ∧ x 0 - x (1 + b) ≤ r.most) ∧ ∀ k, k < r.n → p k → (r.t k).C x
theorem Rnd.start_facts {r : Rnd} (hv : r.valid = true) {off : Int} {set : Nat} (hs : set < 2 ^ r.n) : Gd (r.startT off set) ∧ ∀ x, Sat (r.startT off set) x ↔ r.C off (fun k => k ∈ mem2 set) x := by
  have hh := Rnd.valid_head hv
  obtain ⟨g1, s1⟩ := bench_facts (off := off) hh.2.2.1.1 hh.2.2.1.2 (k := r.nb.toNat) (by omega)
  obtain ⟨g2, s2⟩ := trip_facts (t := r.t) (l := mem2 set) g1 (fun k hk => Rnd.valid_ok hv k (mem2_lt hh.2.2.2 hs hk))
  refine ⟨g2, fun x => (s2 x).trans ?_⟩
  rw [s1 x]
  unfold Rnd.C
  constructor
  · intro h
    exact ⟨fun b hb hne => h.1 b (by omega) hne, fun k _ hk => h.2 k hk⟩
  · intro h
    exact ⟨fun b hb hne => h.1 b (by omega) hne, fun k hk => h.2 k (mem2_lt hh.2.2.2 hs hk) hk⟩
theorem Rnd.tab_cl {r : Rnd} (hv : r.valid = true) {off : Int} {set : Nat} (hs : set < 2 ^ r.n) (h : okT (r.tab off set) = true) : Cl (r.tab off set) := cl_of_ok (Rnd.start_facts hv hs).1 h
theorem Rnd.tab_sat {r : Rnd} (hv : r.valid = true) {off : Int} {set : Nat} (hs : set < 2 ^ r.n) (x : Nat → Int) : Sat (r.tab off set) x ↔ r.C off (fun k => k ∈ mem2 set) x :=
  (sat_end (Rnd.start_facts hv hs).1).trans ((Rnd.start_facts hv hs).2 x)
theorem Rnd.tab_ok {r : Rnd} (hv : r.valid = true) {off : Int} {set : Nat} (hs : set < 2 ^ r.n) : okT (r.tab off set) = true ↔ ∃ x, r.C off (fun k => k ∈ mem2 set) x := by
  constructor
  · intro h
    have c := Rnd.tab_cl hv hs h
    exact ⟨_, (Rnd.tab_sat hv hs _).1 (c.sat fun _ => 0)⟩
  · intro ⟨x, h⟩
    exact ok_of_sat (Rnd.start_facts hv hs).1 (((Rnd.start_facts hv hs).2 x).2 h)
theorem Cl.small {D : T13} (h : Cl D) : ∀ i k, i < 13 → k < 13 → D i k < 1099511627776 → -1099511627776 ≤ D i k := fun i k hi hk h9 => by
  have := (h.bd i k hi hk).2 h9
  omega
theorem Cl.le_fr {D : T13} (h : Cl D) : ∀ i k, i < 13 → k < 13 → D i k ≤ 1099511627776 := fun i k hi hk => (h.bd i k hi hk).1
/-- numbers keep all trips -/
abbrev Rnd.CA (r : Rnd) (off : Int) (x : Nat → Int) : Prop := r.C off (fun _ => True) x
theorem Rnd.C_all {r : Rnd} (hv : r.valid = true) (off : Int) (x : Nat → Int) : r.C off (fun k => k ∈ mem2 (2 ^ r.n - 1)) x ↔ r.CA off x := by
  have hh := Rnd.valid_head hv
  unfold Rnd.CA Rnd.C
  constructor
  · intro h; exact ⟨h.1, fun k hk _ => h.2 k hk ((mem2_all hh.2.2.2).2 hk)⟩
  · intro h; exact ⟨h.1, fun k hk _ => h.2 k hk trivial⟩
theorem Rnd.D_sat {r : Rnd} (hv : r.valid = true) (off : Int) (x : Nat → Int) : Sat (r.D off) x ↔ r.CA off x := (Rnd.tab_sat hv (two_pred r.n) x).trans (Rnd.C_all hv off x)
theorem Rnd.D_ok {r : Rnd} (hv : r.valid = true) (off : Int) : okT (r.D off) = true ↔ ∃ x, r.CA off x := (Rnd.tab_ok hv (two_pred r.n)).trans ⟨fun ⟨x, h⟩ => ⟨x, (Rnd.C_all hv off x).1 h⟩, fun ⟨x, h⟩ => ⟨x, (Rnd.C_all hv off x).2 h⟩⟩
theorem Rnd.D_cl {r : Rnd} (hv : r.valid = true) {off : Int} (h : okT (r.D off) = true) : Cl (r.D off) := Rnd.tab_cl hv (two_pred r.n) h
/-- what a closed table says of two things: just how high the one can be above the other -/
theorem Rnd.D_lt {r : Rnd} (hv : r.valid = true) {off : Int} (h : okT (r.D off) = true) {a b : Nat} (ha : a < 13) (hb : b < 13) (hf : r.D off a b < 1099511627776) : (∀ x, r.CA off x → x a - x b ≤ r.D off a b) ∧ ∃ x, r.CA off x ∧ x a - x b = r.D off a b := by
  refine ⟨fun x hx => ((Rnd.D_sat hv off x).2 hx) a b ha hb hf, ?_⟩
  obtain ⟨x, h1, h2⟩ := (Rnd.D_cl hv h).reach ha hb hf
  exact ⟨x, (Rnd.D_sat hv off x).1 h1, h2⟩
theorem Rnd.D_far {r : Rnd} (hv : r.valid = true) {off : Int} (h : okT (r.D off) = true) {a b : Nat} (ha : a < 13) (hb : b < 13) (hf : ¬ r.D off a b < 1099511627776) (N : Int) : ∃ x, r.CA off x ∧ N ≤ x a - x b := by
  obtain ⟨x, h1, h2⟩ := (Rnd.D_cl hv h).far ha hb hf N
  exact ⟨x, (Rnd.D_sat hv off x).1 h1, h2⟩
end Go.Proofs.YtlofopnjjeeehaaDoor
