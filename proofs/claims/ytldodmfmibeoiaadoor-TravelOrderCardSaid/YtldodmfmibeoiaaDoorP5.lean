/- Travel, plain: what is told of a number; each end of a fault is reached, and nothing beyond it. -/
import Derived.Test.YtldodmfmibeoiaaDoorV17
namespace Go.Proofs.YtldodmfmibeoiaaDoor
open Go.RowKit
theorem Rnd.tell_out {r : Rnd} {off idx many : Int} {k : Nat} {turn : Bool} (h : (r.tell off idx many k turn).e = 0) : r.err off = 0 ∧ withinB idx 0 (many - 1) = true ∧ okT (r.D off) = true ∧ r.D off k 0 < 1099511627776 ∧ r.D off 0 k < 1099511627776 ∧ (r.tell off idx many k turn) = if turn then ⟨-(r.D off k 0), r.D off 0 k, 0⟩ else ⟨-(r.D off 0 k), r.D off k 0, 0⟩ := by
  unfold Rnd.tell at h ⊢
  by_cases h1 : r.err off ≠ 0
  · rw [if_pos h1] at h; exact absurd h h1
  · rw [if_neg h1] at h ⊢
    by_cases h2 : withinB idx 0 (many - 1) = false
    · rw [if_pos h2] at h; cases h
    · rw [if_neg h2] at h ⊢
      by_cases h3 : okT (r.D off) = false
      · rw [if_pos h3] at h; cases h
      · rw [if_neg h3] at h ⊢
        unfold tellD at h ⊢
        by_cases h4 : r.D off k 0 < 1099511627776 ∧ r.D off 0 k < 1099511627776
        · rw [if_pos h4]
          exact ⟨by omega, by simpa using h2, by simpa using h3, h4.1, h4.2, rfl⟩
        · rw [if_neg h4] at h; cases h
theorem Rnd.tell_zero {r : Rnd} {off idx many : Int} {k : Nat} {turn : Bool} (h : (r.tell off idx many k turn).e ≠ 0) : (r.tell off idx many k turn).lo = 0 ∧ (r.tell off idx many k turn).hi = 0 := by
  unfold Rnd.tell at h ⊢
  by_cases h1 : r.err off ≠ 0
  · rw [if_pos h1]; exact ⟨rfl, rfl⟩
  · rw [if_neg h1] at h ⊢
    by_cases h2 : withinB idx 0 (many - 1) = false
    · rw [if_pos h2]; exact ⟨rfl, rfl⟩
    · rw [if_neg h2] at h ⊢
      by_cases h3 : okT (r.D off) = false
      · rw [if_pos h3]; exact ⟨rfl, rfl⟩
      · rw [if_neg h3] at h ⊢
        unfold tellD at h ⊢
        by_cases h4 : r.D off k 0 < 1099511627776 ∧ r.D off 0 k < 1099511627776
        · rw [if_pos h4] at h; cases turn <;> exact absurd rfl h
        · rw [if_neg h4]; exact ⟨rfl, rfl⟩
/-- what is told, by greatest differences that are reached -/
theorem Rnd.tell_is {r : Rnd} {off idx many : Int} {k : Nat} {turn : Bool} (he : r.err off = 0) (hi : withinB idx 0 (many - 1) = true) (hk : k < 13) {a b : Int} (h1 : ∀ x, r.CA off x → x k - x 0 ≤ b) (h2 : ∃ x, r.CA off x ∧ x k - x 0 = b) (h3 : ∀ x, r.CA off x → x 0 - x k ≤ a) (h4 : ∃ x, r.CA off x ∧ x 0 - x k = a) :
    r.tell off idx many k turn = if turn then ⟨-b, a, 0⟩ else ⟨-a, b, 0⟩ := by
  have hv := (Rnd.err_zero he).1
  have ho : okT (r.D off) = true := (Rnd.D_ok hv off).2 (let ⟨x, hx, _⟩ := h2; ⟨x, hx⟩)
  obtain ⟨e1, e2⟩ := Rnd.D_eq hv ho hk (by omega) h1 h2
  obtain ⟨e3, e4⟩ := Rnd.D_eq hv ho (by omega) hk h3 h4
  unfold Rnd.tell tellD
  rw [if_neg (by omega), if_neg (by rw [hi]; simp), if_neg (by rw [ho]; simp), if_pos ⟨e1, e3⟩, e2, e4]
theorem Rnd.valid_mk {r : Rnd} (h1 : 1 ≤ r.nb ∧ r.nb ≤ 6) (h2 : 1 ≤ r.nm ∧ r.nm ≤ 6) (h3 : 0 ≤ r.most ∧ r.most ≤ 100000) (h4 : r.n ≤ 14) (h5 : ∀ i, i < r.n → 0 ≤ (r.t i).b ∧ (r.t i).b < r.nb ∧ 0 ≤ (r.t i).m ∧ (r.t i).m < r.nm ∧ -100000 ≤ (r.t i).lo ∧ (r.t i).lo ≤ (r.t i).hi ∧ (r.t i).hi ≤ 100000) : r.valid = true := by
  unfold Rnd.valid Rnd.head
  have e : anyB r.n (fun i => badT r.nb r.nm (r.t i)) = false := by
    cases h9 : anyB r.n (fun i => badT r.nb r.nm (r.t i))
    · rfl
    · obtain ⟨i, hi, hp⟩ := anyB_iff.1 h9
      have := h5 i hi
      unfold badT withinB at hp
      simp only [Bool.or_eq_true, Bool.not_eq_true', decide_eq_false_iff_not, decide_eq_true_eq] at hp
      omega
  rw [e]
  simp only [withinB, Bool.and_eq_true, decide_eq_true_eq, Bool.not_false, and_true]
  exact ⟨h1, h2, h3, h4⟩
theorem Rnd.err_mk {r : Rnd} {off : Int} (hv : r.valid = true) (h : -1 ≤ off ∧ off ≤ r.nb - 1) : r.err off = 0 := by
  unfold Rnd.err
  rw [if_neg (by rw [hv]; simp), if_neg]
  simp only [withinB, decide_eq_false_iff_not]
  omega
/-- only the numbers of benches and meters that there are count -/
theorem Rnd.C_congr {r : Rnd} (hv : r.valid = true) {off : Int} {p : Nat → Prop} {x y : Nat → Int} (h0 : x 0 = y 0) (h1 : ∀ b : Nat, (b : Int) < r.nb → x (1 + b) = y (1 + b)) (h2 : ∀ m : Nat, (m : Int) < r.nm → x (7 + m) = y (7 + m)) (h : r.C off p x) : r.C off p y := by
  refine ⟨fun b hb hne => ?_, fun k hk hp => ?_⟩
  · have := h.1 b hb hne
    rw [h0, h1 b hb] at this
    exact this
  · have := h.2 k hk hp
    have ht := Rnd.valid_trip hv hk
    unfold Trp.C at this ⊢
    rw [h1 _ (by omega), h2 _ (by omega)] at this
    exact this
section
variable {r : Rnd} {off bench n : Int}
theorem ext_valid (hv : r.valid = true) (hn : r.n < 14) (hm : r.nm < 6) (hb : 0 ≤ bench ∧ bench < r.nb) (h : -100000 ≤ n ∧ n ≤ 100000) : (r.ext bench n).valid = true := by
  have hh := Rnd.valid_head hv
  refine Rnd.valid_mk hh.1 (show 1 ≤ r.nm + 1 ∧ r.nm + 1 ≤ 6 by omega) hh.2.2.1 (show r.n + 1 ≤ 14 by omega) fun i hi => ?_
  have hi : i < r.n + 1 := hi
  show 0 ≤ ((if i < r.n then r.t i else ⟨bench, r.nm, n, n⟩ : Trp)).b ∧ ((if i < r.n then r.t i else ⟨bench, r.nm, n, n⟩ : Trp)).b < r.nb ∧ 0 ≤ ((if i < r.n then r.t i else ⟨bench, r.nm, n, n⟩ : Trp)).m ∧ ((if i < r.n then r.t i else ⟨bench, r.nm, n, n⟩ : Trp)).m < r.nm + 1 ∧ -100000 ≤ ((if i < r.n then r.t i else ⟨bench, r.nm, n, n⟩ : Trp)).lo ∧ ((if i < r.n then r.t i else ⟨bench, r.nm, n, n⟩ : Trp)).lo ≤ ((if i < r.n then r.t i else ⟨bench, r.nm, n, n⟩ : Trp)).hi ∧ ((if i < r.n then r.t i else ⟨bench, r.nm, n, n⟩ : Trp)).hi ≤ 100000
  by_cases h9 : i < r.n
  · rw [if_pos h9]
    have := Rnd.valid_trip hv h9
    omega
  · rw [if_neg h9]
    dsimp only
    omega
theorem ext_invalid (h : ¬ (-100000 ≤ n ∧ n ≤ 100000)) : (r.ext bench n).valid = false := by
  cases h9 : (r.ext bench n).valid
  · rfl
  · have h8 := Rnd.valid_trip h9 (i := r.n) (show r.n < r.n + 1 by omega)
    have e : (r.ext bench n).t r.n = ⟨bench, r.nm, n, n⟩ := if_neg (by omega)
    rw [e] at h8
    dsimp only at h8
    omega
theorem ext_CA (x : Nat → Int) : (r.ext bench n).CA off x ↔ r.CA off x ∧ x (7 + r.nm.toNat) - x (1 + bench.toNat) = n := by
  constructor
  · intro h
    have h1 := h.2 r.n (show r.n < r.n + 1 by omega) trivial
    have e : (r.ext bench n).t r.n = ⟨bench, r.nm, n, n⟩ := if_neg (by omega)
    rw [e] at h1
    unfold Trp.C at h1
    dsimp only at h1
    refine ⟨⟨h.1, fun k hk _ => ?_⟩, by omega⟩
    have h2 := h.2 k (show k < r.n + 1 by omega) trivial
    have e2 : (r.ext bench n).t k = r.t k := if_pos hk
    rw [e2] at h2
    exact h2
  · intro h
    refine ⟨h.1.1, fun k hk _ => ?_⟩
    have hk : k < r.n + 1 := hk
    by_cases h9 : k < r.n
    · have e2 : (r.ext bench n).t k = r.t k := if_pos h9
      rw [e2]
      exact h.1.2 k h9 trivial
    · obtain rfl : k = r.n := by omega
      have e : (r.ext bench n).t r.n = ⟨bench, r.nm, n, n⟩ := if_neg (by omega)
      rw [e]
      unfold Trp.C
      dsimp only
      omega
/-- the further meter's number is free, where it is not tested -/
theorem ext_sol (hv : r.valid = true) {x : Nat → Int} (hx : r.CA off x) (hb : 0 ≤ bench ∧ bench < r.nb) (n : Int) : ∃ y : Nat → Int, (r.ext bench n).CA off y ∧ y 0 = x 0 ∧ y (1 + bench.toNat) = x (1 + bench.toNat) ∧ y (7 + r.nm.toNat) = x (1 + bench.toNat) + n := by
  have hh := Rnd.valid_head hv
  refine ⟨fun i => if i = 7 + r.nm.toNat then x (1 + bench.toNat) + n else x i, (ext_CA _).2 ⟨?_, ?_⟩, ?_, ?_, ?_⟩
  · refine Rnd.C_congr hv ?_ (fun b hb9 => ?_) (fun m hm9 => ?_) hx
    · rw [if_neg (by omega)]
    · rw [if_neg (by omega)]
    · rw [if_neg (by omega)]
  · rw [if_pos rfl, if_neg (by omega)]; omega
  · dsimp only; rw [if_neg (by omega)]
  · dsimp only; rw [if_neg (by omega)]
  · dsimp only; rw [if_pos rfl]
theorem ends_law (hf : (r.fault off bench).e = 0) (hn : r.n < 14) (hm : r.nm < 6) :
    r.valid = true ∧ (r.fault off bench).lo ≤ (r.fault off bench).hi ∧ (bench ≠ off → -100000 ≤ (r.fault off bench).lo ∧ (r.fault off bench).hi ≤ 100000) ∧ ∀ n, r.withB off bench n = decide ((r.fault off bench).lo ≤ n ∧ n ≤ (r.fault off bench).hi ∧ -100000 ≤ n ∧ n ≤ 100000) := by
  obtain ⟨he, hi, ho, f1, f2, e⟩ := Rnd.tell_out hf
  have hv := (Rnd.err_zero he).1
  have hoff := (Rnd.err_zero he).2
  have hh := Rnd.valid_head hv
  simp only [withinB, decide_eq_true_eq] at hi
  have hk : 1 + bench.toNat < 13 := by omega
  have e' : r.fault off bench = ⟨-(r.D off (1 + bench.toNat) 0), r.D off 0 (1 + bench.toNat), 0⟩ := by
    unfold Rnd.fault
    rw [e, if_pos rfl]
  have el : (r.fault off bench).lo = -(r.D off (1 + bench.toNat) 0) := by rw [e']
  have eh : (r.fault off bench).hi = r.D off 0 (1 + bench.toNat) := by rw [e']
  obtain ⟨u1, x1, s1, t1⟩ := Rnd.D_lt hv ho hk (by omega) f1
  obtain ⟨u2, x2, s2, t2⟩ := Rnd.D_lt hv ho (by omega) hk f2
  rw [el, eh]
  obtain ⟨a, ha⟩ : ∃ a, a = r.D off (1 + bench.toNat) 0 := ⟨_, rfl⟩
  obtain ⟨b, hb⟩ : ∃ b, b = r.D off 0 (1 + bench.toNat) := ⟨_, rfl⟩
  rw [← ha] at u1 t1 ⊢
  rw [← hb] at u2 t2 ⊢
  have hbn : 0 ≤ bench ∧ bench < r.nb := by omega
  refine ⟨hv, ?_, fun hne => ?_, fun n => ?_⟩
  · have := u2 x1 s1
    omega
  · have k1 := s1.1 bench.toNat (by omega) (by omega)
    have k2 := s2.1 bench.toNat (by omega) (by omega)
    omega
  · by_cases hr : -100000 ≤ n ∧ n ≤ 100000
    · have hev := ext_valid hv hn hm hbn hr
      have hee : (r.ext bench n).err off = 0 := Rnd.err_mk hev hoff
      obtain ⟨y1, p1, p2, p3, p4⟩ := ext_sol hv s1 hbn n
      obtain ⟨y2, q1, q2, q3, q4⟩ := ext_sol hv s2 hbn n
      have ht : (r.ext bench n).error off r.nm = ⟨-(b - n), a + n, 0⟩ := by
        show (r.ext bench n).tell off r.nm (r.nm + 1) (7 + r.nm.toNat) false = _
        rw [Rnd.tell_is hee (by simp only [withinB, decide_eq_true_eq]; omega) (by omega) (a := b - n) (b := a + n)]
        · rfl
        · intro x hx
          obtain ⟨k1, k2⟩ := (ext_CA x).1 hx
          have := u1 x k1
          omega
        · exact ⟨y1, p1, by omega⟩
        · intro x hx
          obtain ⟨k1, k2⟩ := (ext_CA x).1 hx
          have := u2 x k1
          omega
        · exact ⟨y2, q1, by omega⟩
      unfold Rnd.withB
      rw [ht, decide_eq_decide]
      dsimp only
      omega
    · have hev := ext_invalid (r := r) (bench := bench) hr
      have hee : (r.ext bench n).err off = 1 := by unfold Rnd.err; rw [if_pos hev]
      have ht : ((r.ext bench n).error off r.nm).e = 1 := by
        show ((r.ext bench n).tell off r.nm (r.nm + 1) (7 + r.nm.toNat) false).e = _
        unfold Rnd.tell
        rw [if_pos (by rw [hee]; decide), hee]
      unfold Rnd.withB
      rw [ht, decide_eq_decide]
      omega
end
end Go.Proofs.YtldodmfmibeoiaaDoor
