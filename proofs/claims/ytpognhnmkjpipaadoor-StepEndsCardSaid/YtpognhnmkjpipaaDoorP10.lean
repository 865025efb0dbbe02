/- A test with one step more, where all streets but one are shut: what it says of that street; plain, no program in sight. -/
import Derived.Test.YtpognhnmkjpipaaDoorP9
namespace Go.Proofs.YtpognhnmkjpipaaDoor
theorem shut_all : (List.range 11).all (fun n => (List.range n).all fun s => (List.range n).all fun k => hasB (2 ^ n - 1 - 2 ^ s) k == !decide (k = s)) = true := by kernel_rfl
theorem shut_one {n s k : Nat} (hn : n ≤ 10) (hs : s < n) (hk : k < n) : hasB (2 ^ n - 1 - 2 ^ s) k = !decide (k = s) :=
  by simpa using (List.all_eq_true.1 (List.all_eq_true.1 (List.all_eq_true.1 shut_all n (List.mem_range.2 (by omega))) s (List.mem_range.2 hs)) k (List.mem_range.2 hk))
theorem left_one {u : Nat → Spn} {v : Int} {n s : Nat} (hn : n ≤ 10) (hs : s < n) (hu : (u s).hi = (u s).lo) : ∀ k, k ≤ n → leftK u ⟨v, v⟩ (2 ^ n - 1 - 2 ^ s) k = if s < k then ⟨v - (u s).lo, v - (u s).lo⟩ else ⟨v, v⟩
  | 0, _ => rfl
  | k + 1, h => by
    unfold leftK
    rw [left_one hn hs hu k (by omega), shut_one hn hs (by omega)]
    by_cases hks : k = s
    · subst hks
      rw [if_neg (by simp), if_neg (by omega), if_pos (by omega), hu]
    · rw [if_pos (by simpa using hks)]
      by_cases hsk : s < k
      · rw [if_pos hsk, if_pos (by omega)]
      · rw [if_neg hsk, if_neg (by omega)]
/-- the step in which this street alone is open, and this much runs -/
def openSt (t : Tst) (s : Nat) (v : Int) : Stp := ⟨((2 ^ t.n - 1 - 2 ^ s : Nat) : Int), ⟨v, v⟩⟩
def atL (L : Int) (o : Option Spn) : Option Spn := o.bind fun a => if a.lo ≤ L ∧ L ≤ a.hi then some ⟨L, L⟩ else none
theorem atL_none (L : Int) : atL L none = none := rfl
theorem cut_one (p : Pr) (L : Int) : (if ({ p with a := cutS p.a ⟨L, L⟩ } : Pr).can = true then some (cutS p.a ⟨L, L⟩) else none) = atL L (if p.can = true then some p.a else none) := by
  rcases p with ⟨⟨a0, a1⟩, ⟨b0, b1⟩, ⟨c0, c1⟩⟩
  by_cases h : (⟨⟨a0, a1⟩, ⟨b0, b1⟩, ⟨c0, c1⟩⟩ : Pr).can = true
  · rw [if_pos h]
    rw [can_iff] at h
    by_cases hL : a0 ≤ L ∧ L ≤ a1
    · rw [if_pos (can_iff.2 (by simp only [cutS] at *; omega))]
      show _ = if _ then _ else _
      rw [if_pos hL]
      simp only [cutS, Option.some.injEq, Spn.mk.injEq]; omega
    · rw [if_neg (fun h9 => by rw [can_iff] at h9; simp only [cutS] at *; omega)]
      show _ = if _ then _ else _
      rw [if_neg hL]
  · rw [if_neg h, if_neg (fun h9 => h (by rw [can_iff] at *; simp only [cutS] at *; omega))]
    rfl
theorem cut_fst (p : Pr) (L : Int) : (if (Pr.narrow { p with a := cutS p.a ⟨L, L⟩ }).can = true then some (Pr.narrow { p with a := cutS p.a ⟨L, L⟩ }).a else none) = atL L (if p.narrow.can = true then some p.narrow.a else none) := by
  rcases p with ⟨⟨a0, a1⟩, ⟨b0, b1⟩, ⟨c0, c1⟩⟩
  by_cases h : (Pr.narrow ⟨⟨a0, a1⟩, ⟨b0, b1⟩, ⟨c0, c1⟩⟩).can = true
  · rw [if_pos h]
    rw [can_iff] at h
    simp only [Pr.narrow, cutS] at h
    by_cases hL : max a0 (c0 - b1) ≤ L ∧ L ≤ min a1 (c1 - b0)
    · rw [if_pos (can_iff.2 (by simp only [Pr.narrow, cutS]; omega))]
      show _ = if _ then _ else _
      rw [if_pos (by simpa only [Pr.narrow, cutS] using hL)]
      simp only [Pr.narrow, cutS, Option.some.injEq, Spn.mk.injEq]; omega
    · rw [if_neg (fun h9 => by rw [can_iff] at h9; simp only [Pr.narrow, cutS] at h9; omega)]
      show _ = if _ then _ else _
      rw [if_neg (by simpa only [Pr.narrow, cutS] using hL)]
  · rw [if_neg h, if_neg (fun h9 => h (by rw [can_iff] at *; simp only [Pr.narrow, cutS] at *; omega))]
    rfl
theorem cut_snd (p : Pr) (L : Int) : (if (Pr.narrow { p with b := cutS p.b ⟨L, L⟩ }).can = true then some (Pr.narrow { p with b := cutS p.b ⟨L, L⟩ }).b else none) = atL L (if p.narrow.can = true then some p.narrow.b else none) := by
  rcases p with ⟨⟨a0, a1⟩, ⟨b0, b1⟩, ⟨c0, c1⟩⟩
  by_cases h : (Pr.narrow ⟨⟨a0, a1⟩, ⟨b0, b1⟩, ⟨c0, c1⟩⟩).can = true
  · rw [if_pos h]
    rw [can_iff] at h
    simp only [Pr.narrow, cutS] at h
    by_cases hL : max b0 (c0 - a1) ≤ L ∧ L ≤ min b1 (c1 - a0)
    · rw [if_pos (can_iff.2 (by simp only [Pr.narrow, cutS]; omega))]
      show _ = if _ then _ else _
      rw [if_pos (by simpa only [Pr.narrow, cutS] using hL)]
      simp only [Pr.narrow, cutS, Option.some.injEq, Spn.mk.injEq]; omega
    · rw [if_neg (fun h9 => by rw [can_iff] at h9; simp only [Pr.narrow, cutS] at h9; omega)]
      show _ = if _ then _ else _
      rw [if_neg (by simpa only [Pr.narrow, cutS] using hL)]
  · rw [if_neg h, if_neg (fun h9 => h (by rw [can_iff] at *; simp only [Pr.narrow, cutS] at *; omega))]
    rfl
/-- what a set says, from what its steps leave -/
theorem cont_eq (t : Tst) (s x : Nat) : cont t s x = if t.leaks < (sizeN x : Int) then none else if hasB x s = true then (gK t x t.m).bind (fun p => if (narrowI x p).can = true then some (spanAt x (narrowI x p) s) else none) else none := by
  unfold cont gR
  by_cases h : t.leaks < (sizeN x : Int)
  · rw [if_pos h, if_pos h]
  · rw [if_neg h, if_neg h]
    cases hg : gK t x t.m with
    | none => simp
    | some p =>
      simp only [Option.bind_some]
      by_cases hc : (narrowI x p).can = true
      · rw [if_pos hc, if_pos hc]
      · rw [if_neg hc, if_neg hc]; simp
theorem rest_open {t : Tst} {s : Nat} {L : Int} (hn : t.n ≤ 10) (hs : s < t.n) (hu : (t.u s).hi = (t.u s).lo) : (t.rich (openSt t s (L + (t.u s).lo))).rest t.m = ⟨((2 ^ t.n - 1 - 2 ^ s : Nat) : Int), ⟨L, L⟩⟩ := by
  unfold Tst.rest
  have e : (t.rich (openSt t s (L + (t.u s).lo))).s t.m = openSt t s (L + (t.u s).lo) := if_neg (by omega)
  rw [e]
  show (⟨((2 ^ t.n - 1 - 2 ^ s : Nat) : Int), leftK t.u ⟨L + (t.u s).lo, L + (t.u s).lo⟩ (Int.toNat ((2 ^ t.n - 1 - 2 ^ s : Nat) : Int)) t.n⟩ : Stp) = _
  rw [Int.toNat_natCast, left_one hn hs hu t.n (Nat.le_refl _), if_pos hs]
  have : L + (t.u s).lo - (t.u s).lo = L := by omega
  rw [this]
theorem cont_open {t : Tst} (hk : t.Ok) {s : Nat} (hs : s < t.n) (hu : (t.u s).hi = (t.u s).lo) (L : Int) {x : Nat} (hx : x < 2 ^ t.n) : cont (t.rich (openSt t s (L + (t.u s).lo))) s x = atL L (cont t s x) := by
  have hn2 := hk.n2
  have h10 := pow_ten hn2
  have hl1 := hk.l1
  rw [cont_eq, cont_eq]
  show (if t.leaks < (sizeN x : Int) then _ else _) = _
  by_cases h : t.leaks < (sizeN x : Int)
  · rw [if_pos h, if_pos h]; rfl
  · rw [if_neg h, if_neg h]
    by_cases hb9 : ¬ hasB x s = true
    · rw [if_neg hb9, if_neg hb9]; rfl
    have hb : hasB x s = true := Classical.not_not.1 hb9
    clear hb9
    rw [if_pos hb, if_pos hb]
    show ((gK (t.rich (openSt t s (L + (t.u s).lo))) x t.m).bind (cutO x ((t.rich (openSt t s (L + (t.u s).lo))).rest t.m))).bind _ = _
    rw [gK_rich t _ x t.m (Nat.le_refl _), rest_open hn2 hs hu]
    cases hg : gK t x t.m with
    | none => rfl
    | some p =>
      simp only [Option.bind_some]
      have hsh : ∀ k, k < t.n → hasB (2 ^ t.n - 1 - 2 ^ s) k = !decide (k = s) := fun k hk9 => shut_one hn2 hs hk9
      have hT : (⟨((2 ^ t.n - 1 - 2 ^ s : Nat) : Int), ⟨L, L⟩⟩ : Stp).shut.toNat = 2 ^ t.n - 1 - 2 ^ s := Int.toNat_natCast _
      rcases few (x := x) (by omega) (by omega) with rfl | ⟨i, hi, rfl⟩ | ⟨i, j, hi, hj, hij, rfl⟩
      · rw [zero_st.2.2 s (by omega)] at hb; cases hb
      · obtain ⟨-, hst, hsz, hbb⟩ := one_st hi
        rw [hbb s (by omega)] at hb
        obtain rfl : s = i := by simpa using hb
        have hop : opSt (2 ^ t.n - 1 - 2 ^ s) [s] = (1, 0) := by rw [op_one, hsh s hs]; simp
        have e : cutO (2 ^ s) ⟨((2 ^ t.n - 1 - 2 ^ s : Nat) : Int), ⟨L, L⟩⟩ p = some { p with a := cutS p.a ⟨L, L⟩ } := by
          unfold cutO
          rw [hT, hst, hop]
          rfl
        have en : ∀ q, narrowI (2 ^ s) q = q := fun q => by unfold narrowI; rw [hsz, if_neg (by omega)]
        rw [e]
        simp only [Option.bind_some, en, span_a _ hst]
        exact cut_one p L
      · obtain ⟨-, hst, hsz, hbb⟩ := two_st hi hj hij
        rw [hbb s (by omega)] at hb
        have en : ∀ q, narrowI (2 ^ i + 2 ^ j) q = q.narrow := fun q => by unfold narrowI; rw [hsz, if_pos rfl]
        have hjn : j < t.n := pow_lt_of (Nat.lt_of_le_of_lt (Nat.le_add_left _ _) hx)
        by_cases hsi : s = i
        · subst hsi
          have hop : opSt (2 ^ t.n - 1 - 2 ^ s) [s, j] = (1, 0) := by
            rw [op_two, hsh s hs, hsh j hjn]
            have : decide (j = s) = false := decide_eq_false (by omega)
            rw [this]; simp
          have e : cutO (2 ^ s + 2 ^ j) ⟨((2 ^ t.n - 1 - 2 ^ s : Nat) : Int), ⟨L, L⟩⟩ p = some { p with a := cutS p.a ⟨L, L⟩ } := by
            unfold cutO
            rw [hT, hst, hop]
            rfl
          rw [e]
          simp only [Option.bind_some, en, span_a _ hst]
          exact cut_fst p L
        · obtain rfl : s = j := by simp [hsi] at hb; exact hb
          have hop : opSt (2 ^ t.n - 1 - 2 ^ s) [i, s] = (1, 1) := by
            rw [op_two, hsh s hs, hsh i (by omega)]
            have : decide (i = s) = false := decide_eq_false (by omega)
            rw [this]; simp
          have e : cutO (2 ^ i + 2 ^ s) ⟨((2 ^ t.n - 1 - 2 ^ s : Nat) : Int), ⟨L, L⟩⟩ p = some { p with b := cutS p.b ⟨L, L⟩ } := by
            unfold cutO
            rw [hT, hst, hop]
            rfl
          rw [e]
          simp only [Option.bind_some, en, span_b _ hst (Ne.symm hsi)]
          exact cut_snd p L
/-- what the verdict says of a street is the hull of what the sets say -/
theorem verd_hull {t : Tst} (hk : t.Ok) {s : Nat} (hs : s < t.n) : OptHull (fun a => ∃ x, x < 2 ^ t.n ∧ cont t s x = some a) (if hasB (verd t).can s then some ((verd t).leaks s) else none) := by
  have h10 := pow_ten hk.n2
  have h := prog_fold hk (s := s) (by have := hk.n2; omega) h10
  have e : (verdF t (gL t (2 ^ t.n))) = verd t := rfl
  rw [e] at h
  rw [h]
  have h2 := foldO_hull none (cont t s) (2 ^ t.n)
  have e2 : (fun a => (none : Option Spn) = some a ∨ ∃ x, x < 2 ^ t.n ∧ cont t s x = some a) = fun a => ∃ x, x < 2 ^ t.n ∧ cont t s x = some a := by
    funext a; simp
  rw [e2] at h2
  exact h2
theorem cont_can {t : Tst} {s x : Nat} {a : Spn} (h : cont t s x = some a) : a.lo ≤ a.hi := by
  unfold cont at h
  split at h
  · cases h
  · rename_i p hp
    split at h
    · cases h
      have hc : p.can = true := by
        unfold gR at hp
        split at hp
        · cases hp
        · cases hg : gK t x t.m with
          | none => rw [hg] at hp; cases hp
          | some q =>
            rw [hg] at hp
            simp only [Option.bind_some] at hp
            split at hp
            · cases hp; assumption
            · cases hp
      rw [can_iff] at hc
      unfold spanAt
      split <;> omega
    · cases h
def Tst.exact (t : Tst) (s : Nat) : Tst := { t with u := fun i => if i = s then ⟨(t.u i).lo, (t.u i).lo⟩ else t.u i }
theorem exact_hi (t : Tst) (s : Nat) : ((t.exact s).u s).hi = ((t.exact s).u s).lo := by
  show (if s = s then (⟨(t.u s).lo, (t.u s).lo⟩ : Spn) else t.u s).hi = (if s = s then (⟨(t.u s).lo, (t.u s).lo⟩ : Spn) else t.u s).lo
  rw [if_pos rfl]
theorem exact_lo (t : Tst) (s : Nat) : ((t.exact s).u s).lo = (t.u s).lo := by
  show (if s = s then (⟨(t.u s).lo, (t.u s).lo⟩ : Spn) else t.u s).lo = _
  rw [if_pos rfl]
theorem Spn.sub_trans {a b c : Spn} (h : a.sub b) (h2 : b.sub c) : a.sub c := by unfold Spn.sub at *; omega
theorem Pr.sub_trans {a b c : Pr} (h : a.Sub b) (h2 : b.Sub c) : a.Sub c := ⟨Spn.sub_trans h.a h2.a, Spn.sub_trans h.b h2.b, Spn.sub_trans h.c h2.c⟩
theorem gK_le (t : Tst) (x : Nat) : ∀ k p, gK t x k = some p → p.Sub (anyP t.least)
  | 0, p, h => by cases h; exact Pr.sub_refl _
  | k + 1, p, h => by
    have h9 : (gK t x k).bind (cutO x (t.rest k)) = some p := h
    cases hg : gK t x k with
    | none => rw [hg] at h9; cases h9
    | some q =>
      rw [hg] at h9
      exact Pr.sub_trans (cutO_le h9) (gK_le t x k q hg)
theorem narrow_le (x : Nat) (p : Pr) : (narrowI x p).Sub p := by
  unfold narrowI
  split
  · exact ⟨cutS_le _ _, cutS_le _ _, Spn.sub_refl _⟩
  · exact Pr.sub_refl _
theorem cont_least {t : Tst} {s x : Nat} {a : Spn} (h : cont t s x = some a) : t.least ≤ a.lo ∧ a.hi ≤ 1073741824 := by
  rw [cont_eq] at h
  split at h
  · cases h
  · split at h
    · cases hg : gK t x t.m with
      | none => rw [hg] at h; cases h
      | some p =>
        rw [hg] at h
        simp only [Option.bind_some] at h
        split at h
        · cases h
          have h1 := Pr.sub_trans (narrow_le x p) (gK_le t x _ _ hg)
          have ha := h1.a
          have hb := h1.b
          unfold spanAt
          split
          · exact ha
          · exact hb
        · cases h
    · cases h
theorem leakErr_zero {t : Tst} {k : Int} : t.leakErr k = 0 ↔ t.valid = true ∧ withinB k 0 ((t.n : Int) - 1) = true ∧ t.fitB = true ∧ hasB (verd t).can k.toNat = true := by
  unfold Tst.leakErr
  cases t.valid <;> cases withinB k 0 ((t.n : Int) - 1) <;> cases t.fitB <;> cases hasB (verd t).can k.toNat <;> simp
theorem leakErr_hull {t : Tst} {s : Nat} (hs : s < t.n) (h : t.leakErr s = 0) : IsHull (fun a => ∃ x, x < 2 ^ t.n ∧ cont t s x = some a) (t.leakR s) := by
  obtain ⟨hv, -, -, hc⟩ := leakErr_zero.1 h
  have hk := Tst.ok hv
  have := verd_hull hk hs
  rw [Int.toNat_natCast] at hc
  rw [hc] at this
  unfold Tst.leakR
  rw [if_pos h, Int.toNat_natCast]
  exact this
theorem leak_facts {t : Tst} {s : Nat} (hs : s < t.n) (h : t.leakErr s = 0) : t.valid = true ∧ (t.leakR s).lo ≤ (t.leakR s).hi ∧ t.least ≤ (t.leakR s).lo ∧ (t.leakR s).hi ≤ 1073741824 := by
  have hh := leakErr_hull hs h
  obtain ⟨a, ⟨x, hx, ha⟩, e⟩ := hh.lo
  obtain ⟨b, ⟨y, hy, hb⟩, e2⟩ := hh.hi
  have h1 := cont_least ha
  have h2 := cont_can ha
  have h3 := hh.le a ⟨x, hx, ha⟩
  have h4 := cont_least hb
  refine ⟨(leakErr_zero.1 h).1, by omega, by omega, by omega⟩
theorem open_valid {t : Tst} (hv : t.valid = true) {s : Nat} (hs : s < t.n) (hm : t.m < 12) {v : Int} (h0 : 0 ≤ v) (h1 : v ≤ 1073741824) : (t.rich (openSt t s v)).valid = true := by
  simp only [Tst.valid, Bool.and_eq_true, Bool.not_eq_true'] at hv ⊢
  obtain ⟨h2, h3, h4⟩ := hv
  refine ⟨?_, h3, ?_⟩
  · rw [head_iff] at *
    obtain ⟨p1, p2, p3, p4⟩ := h2
    exact ⟨p1, p2, p3, by show t.m + 1 ≤ 12; omega⟩
  · show anyB (t.m + 1) (fun i => badS (top t.n) ((t.rich (openSt t s v)).s i)) = false
    rw [anyB_succ]
    have e1 : (t.rich (openSt t s v)).s t.m = openSt t s v := if_neg (by omega)
    rw [e1]
    have e2 : anyB t.m (fun i => badS (top t.n) ((t.rich (openSt t s v)).s i)) = anyB t.m (fun i => badS (top t.n) (t.s i)) := by
      rw [Bool.eq_iff_iff, anyB_iff, anyB_iff]
      constructor
      · rintro ⟨i, hi, h⟩
        have e : (t.rich (openSt t s v)).s i = t.s i := if_pos hi
        rw [e] at h; exact ⟨i, hi, h⟩
      · rintro ⟨i, hi, h⟩
        have e : (t.rich (openSt t s v)).s i = t.s i := if_pos hi
        exact ⟨i, hi, by rw [e]; exact h⟩
    rw [e2, h4]
    have hp : 2 ^ s ≤ 2 ^ t.n - 1 := by
      have := (Nat.pow_lt_pow_iff_right (a := 2) (by omega)).2 hs
      omega
    have hp2 := Nat.two_pow_pos t.n
    have e3 : withinB (openSt t s v).shut 0 (top t.n) = true := by
      refine within_yes ?_
      show 0 ≤ ((2 ^ t.n - 1 - 2 ^ s : Nat) : Int) ∧ ((2 ^ t.n - 1 - 2 ^ s : Nat) : Int) ≤ ((2 ^ t.n : Nat) : Int) - 1
      have q : ∀ N M : Nat, 0 < N → 0 ≤ ((N - 1 - M : Nat) : Int) ∧ ((N - 1 - M : Nat) : Int) ≤ (N : Int) - 1 := fun N M h => by omega
      exact q _ _ hp2
    have e4 : litB (openSt t s v).flow = true := by
      have q : ∀ b : Spn, 0 ≤ b.lo ∧ b.lo ≤ b.hi ∧ b.hi ≤ 1073741824 → litB b = true := fun b hb => by
        simp only [litB, spanB, decide_eq_true_eq]
        omega
      exact q ⟨v, v⟩ ⟨h0, Int.le_refl _, h1⟩
    unfold badS
    rw [e3, e4]; rfl
theorem open_none {t : Tst} (hv : t.valid = true) {s : Nat} (hs : s < t.n) (hu : (t.u s).hi = (t.u s).lo) {L : Int} (hL : ∀ x a, x < 2 ^ t.n → cont t s x = some a → ¬ (a.lo ≤ L ∧ L ≤ a.hi)) : (t.rich (openSt t s (L + (t.u s).lo))).leakErr s ≠ 0 := fun h => by
  have hh := leakErr_hull (t := t.rich (openSt t s (L + (t.u s).lo))) hs h
  obtain ⟨a, ⟨x, hx, ha⟩, -⟩ := hh.lo
  have hx : x < 2 ^ t.n := hx
  rw [cont_open (Tst.ok hv) hs hu L hx] at ha
  cases hc : cont t s x with
  | none => rw [hc] at ha; cases ha
  | some b =>
    rw [hc] at ha
    have h9 : (if b.lo ≤ L ∧ L ≤ b.hi then some (⟨L, L⟩ : Spn) else none) = some a := ha
    rw [if_neg (hL x b hx hc)] at h9
    cases h9
theorem open_some {t : Tst} (hv : t.valid = true) {s : Nat} (hs : s < t.n) (hm : t.m < 12) (hu : (t.u s).hi = (t.u s).lo) {L : Int} (h0 : 0 ≤ L + (t.u s).lo) (h1 : L + (t.u s).lo ≤ 1073741824) {x : Nat} {a : Spn} (hx : x < 2 ^ t.n) (ha : cont t s x = some a) (hL : a.lo ≤ L ∧ L ≤ a.hi) :
    (t.rich (openSt t s (L + (t.u s).lo))).leakErr s = 0 ∧ (t.rich (openSt t s (L + (t.u s).lo))).leakR s = ⟨L, L⟩ := by
  have hv2 := open_valid hv hs hm h0 h1
  have hk := Tst.ok hv
  have hk2 := Tst.ok hv2
  have hh := verd_hull (t := t.rich (openSt t s (L + (t.u s).lo))) hk2 hs
  have hc : cont (t.rich (openSt t s (L + (t.u s).lo))) s x = some ⟨L, L⟩ := by
    rw [cont_open hk hs hu L hx, ha]
    show (if a.lo ≤ L ∧ L ≤ a.hi then some (⟨L, L⟩ : Spn) else none) = _
    rw [if_pos hL]
  have hcan : hasB (verd (t.rich (openSt t s (L + (t.u s).lo)))).can s = true := by
    cases h9 : hasB (verd (t.rich (openSt t s (L + (t.u s).lo)))).can s
    · rw [h9] at hh
      exact absurd ⟨x, hx, hc⟩ (hh ⟨L, L⟩)
    · rfl
  have hfit : (t.rich (openSt t s (L + (t.u s).lo))).fitB = true := fit_iff.2 ⟨x, hx, by
    unfold cont at hc
    split at hc
    · cases hc
    · rename_i p hp; rw [hp]; rfl⟩
  have he : (t.rich (openSt t s (L + (t.u s).lo))).leakErr s = 0 := leakErr_zero.2 ⟨hv2, by
    simp only [withinB, decide_eq_true_eq]
    show 0 ≤ (s : Int) ∧ (s : Int) ≤ (t.n : Int) - 1
    omega, hfit, by rw [Int.toNat_natCast]; exact hcan⟩
  refine ⟨he, ?_⟩
  have hh2 := leakErr_hull (t := t.rich (openSt t s (L + (t.u s).lo))) hs he
  have hall : ∀ b, (∃ y, y < 2 ^ t.n ∧ cont (t.rich (openSt t s (L + (t.u s).lo))) s y = some b) → b = ⟨L, L⟩ := by
    rintro b ⟨y, hy, hb⟩
    rw [cont_open hk hs hu L hy] at hb
    cases hd : cont t s y with
    | none => rw [hd] at hb; cases hb
    | some d =>
      rw [hd] at hb
      have h9 : (if d.lo ≤ L ∧ L ≤ d.hi then some (⟨L, L⟩ : Spn) else none) = some b := hb
      split at h9
      · cases h9; rfl
      · cases h9
  obtain ⟨b, hb, e⟩ := hh2.lo
  obtain ⟨d, hd, e2⟩ := hh2.hi
  have q1 := hall b hb
  have q2 := hall d hd
  rw [q1] at e
  rw [q2] at e2
  generalize (t.rich (openSt t s (L + (t.u s).lo))).leakR s = r at e e2 ⊢
  cases r
  simp only at e e2
  simp only [Spn.mk.injEq]
  omega
/-- the law of StepEnds -/
theorem ends_law {t : Tst} {s : Nat} (hs : s < t.n) (hm : t.m < 12) (hu : (t.u s).hi = (t.u s).lo) (h : t.leakErr s = 0) (hmax : (t.leakR s).hi + (t.u s).lo < 1073741824) :
    ((t.rich (openSt t s ((t.leakR s).lo + (t.u s).lo))).leakErr s = 0 ∧ (t.rich (openSt t s ((t.leakR s).lo + (t.u s).lo))).leakR s = ⟨(t.leakR s).lo, (t.leakR s).lo⟩) ∧
    ((t.rich (openSt t s ((t.leakR s).hi + (t.u s).lo))).leakErr s = 0 ∧ (t.rich (openSt t s ((t.leakR s).hi + (t.u s).lo))).leakR s = ⟨(t.leakR s).hi, (t.leakR s).hi⟩) ∧
    (t.rich (openSt t s ((t.leakR s).lo - 1 + (t.u s).lo))).leakErr s ≠ 0 ∧ (t.rich (openSt t s ((t.leakR s).hi + 1 + (t.u s).lo))).leakErr s ≠ 0 := by
  obtain ⟨hv, h1, h2, h3⟩ := leak_facts hs h
  have hk := Tst.ok hv
  have he0 := hk.e0
  have hu0 : 0 ≤ (t.u s).lo := by have := hk.u s hs; simp only [litB, spanB, decide_eq_true_eq] at this; omega
  have hh := leakErr_hull hs h
  obtain ⟨a, ⟨x, hx, ha⟩, e⟩ := hh.lo
  obtain ⟨b, ⟨y, hy, hb⟩, e2⟩ := hh.hi
  have c1 := cont_can ha
  have c2 := cont_can hb
  have q1 := hh.le a ⟨x, hx, ha⟩
  have q2 := hh.le b ⟨y, hy, hb⟩
  refine ⟨open_some hv hs hm hu (by omega) (by omega) hx ha (by omega), open_some hv hs hm hu (by omega) (by omega) hy hb (by omega), open_none hv hs hu fun z c hz hc => ?_, open_none hv hs hu fun z c hz hc => ?_⟩
  · have := hh.le c ⟨z, hz, hc⟩; omega
  · have := hh.le c ⟨z, hz, hc⟩; omega
end Go.Proofs.YtpognhnmkjpipaaDoor
