/- Travel, plain: with a trip more, or a greater Most, what fits and how wide the spans are. -/
import Derived.Test.YtldodmfmibeoiaaDoorP5
namespace Go.Proofs.YtldodmfmibeoiaaDoor
open Go.RowKit
def Rnd.wide (r : Rnd) (most : Int) : Rnd := ⟨r.nb, r.nm, most, r.n, r.t⟩
def Rnd.rich (r : Rnd) (s : Trp) : Rnd := ⟨r.nb, r.nm, r.most, r.n + 1, fun i => if i < r.n then r.t i else s⟩
theorem Rnd.tell_fin {r : Rnd} {off idx many : Int} {k : Nat} {turn : Bool} (he : r.err off = 0) (hi : withinB idx 0 (many - 1) = true) (ho : okT (r.D off) = true) (f1 : r.D off k 0 < 1099511627776) (f2 : r.D off 0 k < 1099511627776) :
    r.tell off idx many k turn = if turn then ⟨-(r.D off k 0), r.D off 0 k, 0⟩ else ⟨-(r.D off 0 k), r.D off k 0, 0⟩ := by
  unfold Rnd.tell tellD
  rw [if_neg (by omega), if_neg (by rw [hi]; simp), if_neg (by rw [ho]; simp), if_pos ⟨f1, f2⟩]
theorem Rnd.fin_of {r : Rnd} {off : Int} (hv : r.valid = true) (ho : okT (r.D off) = true) {i j : Nat} (hi : i < 13) (hj : j < 13) {c : Int} (h : ∀ x, r.CA off x → x i - x j ≤ c) : r.D off i j < 1099511627776 := by
  by_cases hf : r.D off i j < 1099511627776
  · exact hf
  · obtain ⟨x, h1, h2⟩ := Rnd.D_far hv ho hi hj hf (c + 1)
    have := h x h1
    omega
theorem Rnd.le_of {r : Rnd} {off : Int} (hv : r.valid = true) (ho : okT (r.D off) = true) {i j : Nat} (hi : i < 13) (hj : j < 13) {c : Int} (h : ∀ x, r.CA off x → x i - x j ≤ c) : r.D off i j ≤ c := by
  obtain ⟨-, x, h1, h2⟩ := Rnd.D_lt hv ho hi hj (Rnd.fin_of hv ho hi hj h)
  have := h x h1
  omega
/-- fewer numbers keep all: the spans are narrower -/
theorem Rnd.narrower {r r' : Rnd} {off idx many : Int} {k : Nat} {turn : Bool} (he : r.err off = 0) (hk : k < 13) (hsub : ∀ x, r.CA off x → r'.CA off x) (ho : okT (r.D off) = true) (h : (r'.tell off idx many k turn).e = 0) :
    (r.tell off idx many k turn).e = 0 ∧ (r'.tell off idx many k turn).lo ≤ (r.tell off idx many k turn).lo ∧ (r.tell off idx many k turn).hi ≤ (r'.tell off idx many k turn).hi := by
  obtain ⟨he', hi, ho', f1, f2, e⟩ := Rnd.tell_out h
  have hv := (Rnd.err_zero he).1
  have hv' := (Rnd.err_zero he').1
  have u1 : ∀ x, r.CA off x → x k - x 0 ≤ r'.D off k 0 := fun x hx => (Rnd.D_lt hv' ho' hk (by omega) f1).1 x (hsub x hx)
  have u2 : ∀ x, r.CA off x → x 0 - x k ≤ r'.D off 0 k := fun x hx => (Rnd.D_lt hv' ho' (by omega) hk f2).1 x (hsub x hx)
  have g1 := Rnd.fin_of hv ho hk (by omega) u1
  have g2 := Rnd.fin_of hv ho (by omega) hk u2
  have m1 := Rnd.le_of hv ho hk (by omega) u1
  have m2 := Rnd.le_of hv ho (by omega) hk u2
  rw [e, Rnd.tell_fin he hi ho g1 g2]
  cases turn
  · simp; omega
  · simp; omega
/-- all of a set of numbers, which no bound leaves, may be raised -/
theorem Rnd.shift {r : Rnd} {off : Int} {x : Nat → Int} (h : r.CA off x) (S : Nat → Prop) [DecidablePred S] (h1 : ∀ b : Nat, (b : Int) < r.nb → (b : Int) ≠ off → (S (1 + b) ↔ S 0)) (h2 : ∀ k, k < r.n → (S (7 + (r.t k).m.toNat) ↔ S (1 + (r.t k).b.toNat))) (N : Int) : r.CA off (fun i => x i + if S i then N else 0) := by
  refine ⟨fun b hb hne => ?_, fun k hk _ => ?_⟩
  · have a := h.1 b hb hne
    have s := h1 b hb hne
    by_cases hS : S 0
    · simp only [s.2 hS, hS, if_true]; omega
    · simp only [mt s.1 hS, hS, if_false]; omega
  · have a := h.2 k hk trivial
    have s := h2 k hk
    unfold Trp.C at a ⊢
    by_cases hS : S (1 + (r.t k).b.toNat)
    · simp only [s.2 hS, hS, if_true]; omega
    · simp only [mt s.1 hS, hS, if_false]; omega
set_option maxRecDepth 100000 in
theorem Rnd.fin_wide {r : Rnd} {off : Int} {most : Int} (hv : r.valid = true) (hv' : (r.wide most).valid = true) (ho : okT (r.D off) = true) (ho' : okT ((r.wide most).D off) = true) {a b : Nat} (ha : a < 13) (hb : b < 13) (hf : r.D off a b < 1099511627776) : (r.wide most).D off a b < 1099511627776 := by
  have c := Rnd.D_cl hv' ho'
  have hh := Rnd.valid_head hv
  by_cases h9 : (r.wide most).D off a b < 1099511627776
  · exact h9
  · exfalso
    have trans : ∀ i j, i < 13 → j < 13 → (r.wide most).D off a i < 1099511627776 → (r.wide most).D off i j < 1099511627776 → (r.wide most).D off a j < 1099511627776 := fun i j hi hj h1 h2 => by
      have := c.tri i a j hi ha hj h1 h2
      have := (c.bd a i ha hi).2 h1
      have := (c.bd i j hi hj).2 h2
      omega
    obtain ⟨u, x, hx, -⟩ := Rnd.D_lt hv ho ha hb hf
    have hsh := Rnd.shift hx (fun i => (r.wide most).D off a i < 1099511627776) (fun b hb9 hne => by
      have g1 : (r.wide most).D off (1 + b) 0 < 1099511627776 := Rnd.fin_of hv' ho' (by omega) (by omega) (fun x hx => (hx.1 b hb9 hne).1)
      have g2 : (r.wide most).D off 0 (1 + b) < 1099511627776 := Rnd.fin_of hv' ho' (by omega) (by omega) (fun x hx => (hx.1 b hb9 hne).2)
      exact ⟨fun h => trans _ _ (by omega) (by omega) h g1, fun h => trans _ _ (by omega) (by omega) h g2⟩) (fun k hk => by
      have ht := Rnd.valid_trip hv hk
      have g1 : (r.wide most).D off (7 + (r.t k).m.toNat) (1 + (r.t k).b.toNat) < 1099511627776 := Rnd.fin_of hv' ho' (by omega) (by omega) (fun x hx => (hx.2 k hk trivial).1)
      have g2 : (r.wide most).D off (1 + (r.t k).b.toNat) (7 + (r.t k).m.toNat) < 1099511627776 := Rnd.fin_of hv' ho' (by omega) (by omega) (fun x hx => (hx.2 k hk trivial).2)
      exact ⟨fun h => trans _ _ (by omega) (by omega) h g1, fun h => trans _ _ (by omega) (by omega) h g2⟩) (r.D off a b + 1 - (x a - x b))
    have h1 := u _ hsh
    have haa := c.diag a ha
    rw [if_pos (by omega), if_neg h9] at h1
    omega
section
variable {r : Rnd} {off : Int}
set_option maxRecDepth 100000 in
theorem wide_valid {most : Int} (hv : r.valid = true) (h1 : r.most ≤ most) (h2 : most ≤ 100000) : (r.wide most).valid = true := by
  have hh := Rnd.valid_head hv
  exact Rnd.valid_mk hh.1 hh.2.1 (show 0 ≤ most ∧ most ≤ 100000 by omega) hh.2.2.2 (fun i hi => Rnd.valid_trip hv hi)
theorem wide_sub {most : Int} (h1 : r.most ≤ most) (x : Nat → Int) (hx : r.CA off x) : (r.wide most).CA off x := by
  refine ⟨fun b hb hne => ?_, hx.2⟩
  have := hx.1 b hb hne
  show x (1 + b) - x 0 ≤ most ∧ x 0 - x (1 + b) ≤ most
  omega
theorem rich_sub {s : Trp} (x : Nat → Int) (hx : (r.rich s).CA off x) : r.CA off x := by
  refine ⟨hx.1, fun k hk _ => ?_⟩
  have h := hx.2 k (show k < r.n + 1 by omega) trivial
  have e : (r.rich s).t k = r.t k := if_pos hk
  rw [e] at h
  exact h
theorem fits_sub {r' : Rnd} (he : r.err off = 0) (he' : r'.err off = 0) (hsub : ∀ x, r.CA off x → r'.CA off x) (h : okT (r.D off) = true) : okT (r'.D off) = true := by
  obtain ⟨x, hx⟩ := (Rnd.D_ok (Rnd.err_zero he).1 off).1 h
  exact (Rnd.D_ok (Rnd.err_zero he').1 off).2 ⟨x, hsub x hx⟩
theorem all_sub (he : r.err off = 0) (h : okT (r.D (-1)) = true) : okT (r.D off) = true := by
  have hv := (Rnd.err_zero he).1
  obtain ⟨x, hx⟩ := (Rnd.D_ok hv (-1)).1 h
  exact (Rnd.D_ok hv off).2 ⟨x, fun b hb _ => hx.1 b hb (by omega), hx.2⟩
theorem fits_err {r : Rnd} (he : r.err off = 0) : r.fitsB off = okT (r.D off) := by unfold Rnd.fitsB; rw [he, decide_eq_true rfl, Bool.true_and]
set_option maxRecDepth 100000 in
/-- with a greater Most no span that there is gets narrower -/
theorem wider {most idx many : Int} {k : Nat} {turn : Bool} (hk : k < 13) (h1 : r.most ≤ most) (h2 : most ≤ 100000) (h : (r.tell off idx many k turn).e = 0) :
    ((r.wide most).tell off idx many k turn).e = 0 ∧ ((r.wide most).tell off idx many k turn).lo ≤ (r.tell off idx many k turn).lo ∧ (r.tell off idx many k turn).hi ≤ ((r.wide most).tell off idx many k turn).hi := by
  obtain ⟨he, hi, ho, f1, f2, e⟩ := Rnd.tell_out h
  have hv := (Rnd.err_zero he).1
  have hv' := wide_valid hv h1 h2
  have he' : (r.wide most).err off = 0 := Rnd.err_mk hv' (Rnd.err_zero he).2
  have ho' := fits_sub he he' (wide_sub h1) ho
  have g1 := Rnd.fin_wide hv hv' ho ho' hk (by omega) f1
  have g2 := Rnd.fin_wide hv hv' ho ho' (by omega) hk f2
  have ht := Rnd.tell_fin (turn := turn) he' hi ho' g1 g2
  have h0 : ((r.wide most).tell off idx many k turn).e = 0 := by rw [ht]; cases turn <;> rfl
  exact ⟨h0, (Rnd.narrower he hk (wide_sub h1) ho h0).2⟩
theorem fault_k {i : Int} (h : (r.fault off i).e = 0) : 1 + i.toNat < 13 := by
  obtain ⟨he, hi, -⟩ := Rnd.tell_out h
  have := (Rnd.valid_head (Rnd.err_zero he).1).1
  simp only [withinB, decide_eq_true_eq] at hi
  omega
theorem error_k {i : Int} (h : (r.error off i).e = 0) : 7 + i.toNat < 13 := by
  obtain ⟨he, hi, -⟩ := Rnd.tell_out h
  have := (Rnd.valid_head (Rnd.err_zero he).1).2.1
  simp only [withinB, decide_eq_true_eq] at hi
  omega
end
end Go.Proofs.YtldodmfmibeoiaaDoor
