/- The plain law of StepOrder: a test whose streets and steps are turned says the same of the turned streets; no program in sight. -/
import Derived.Test.YtpognhnmkjpipaaDoorP15
namespace Go.Proofs.YtpognhnmkjpipaaDoor
/-- what a step says of the leaks of a set, by its kind: no street is open, the first, the second, both -/
def ck : Nat → Spn → Pr → Option Pr
  | 0, f, p => if 0 < f.lo ∨ f.hi < 0 then none else some p
  | 1, f, p => some { p with a := cutS p.a f }
  | 2, f, p => some { p with b := cutS p.b f }
  | _ + 3, f, p => some { p with c := cutS p.c f }
theorem cutS_comm (a f g : Spn) : cutS (cutS a f) g = cutS (cutS a g) f := by
  simp only [cutS, Spn.mk.injEq]; omega
theorem ck_comm (c d : Nat) (f g : Spn) (o : Option Pr) : (o.bind (ck c f)).bind (ck d g) = (o.bind (ck d g)).bind (ck c f) := by
  cases o with
  | none => rfl
  | some p =>
    simp only [Option.bind_some]
    match c, d with
    | 0, 0 => by_cases h1 : 0 < f.lo ∨ f.hi < 0 <;> by_cases h2 : 0 < g.lo ∨ g.hi < 0 <;> simp [ck, h1, h2]
    | 0, 1 => by_cases h1 : 0 < f.lo ∨ f.hi < 0 <;> simp [ck, h1]
    | 0, 2 => by_cases h1 : 0 < f.lo ∨ f.hi < 0 <;> simp [ck, h1]
    | 0, _ + 3 => by_cases h1 : 0 < f.lo ∨ f.hi < 0 <;> simp [ck, h1]
    | 1, 0 => by_cases h1 : 0 < g.lo ∨ g.hi < 0 <;> simp [ck, h1]
    | 2, 0 => by_cases h1 : 0 < g.lo ∨ g.hi < 0 <;> simp [ck, h1]
    | _ + 3, 0 => by_cases h1 : 0 < g.lo ∨ g.hi < 0 <;> simp [ck, h1]
    | 1, 1 => simp [ck, cutS_comm p.a f g]
    | 2, 2 => simp [ck, cutS_comm p.b f g]
    | _ + 3, _ + 3 => simp [ck, cutS_comm p.c f g]
    | 1, 2 => rfl
    | 1, _ + 3 => rfl
    | 2, 1 => rfl
    | 2, _ + 3 => rfl
    | _ + 3, 1 => rfl
    | _ + 3, 2 => rfl
def kd1 (a : Bool) : Nat := if a then 0 else 1
def kd2 (a b : Bool) : Nat := if a then (if b then 0 else 2) else (if b then 1 else 3)
theorem cut_nil {x : Nat} {r : Stp} (h : stL x = []) : cutO x r = ck 0 r.flow := by
  funext p
  unfold cutO
  rw [h, op_nil]
  simp [ck]
theorem cut_1 {x i : Nat} {r : Stp} (h : stL x = [i]) : cutO x r = ck (kd1 (hasB r.shut.toNat i)) r.flow := by
  funext p
  unfold cutO
  rw [h, op_one]
  cases hasB r.shut.toNat i <;> simp [ck, kd1]
theorem cut_2 {x i j : Nat} {r : Stp} (h : stL x = [i, j]) : cutO x r = ck (kd2 (hasB r.shut.toNat i) (hasB r.shut.toNat j)) r.flow := by
  funext p
  unfold cutO
  rw [h, op_two]
  cases hasB r.shut.toNat i <;> cases hasB r.shut.toNat j <;> simp [ck, kd2]
theorem gK_fold (t : Tst) (x : Nat) : ∀ k, gK t x k = foldK (fun i o => o.bind (cutO x (t.rest i))) (some (anyP t.least)) k
  | 0 => rfl
  | k + 1 => by
    show (gK t x k).bind (cutO x (t.rest k)) = _
    rw [gK_fold t x k]; rfl
/-- the turned test -/
def Tst.turn (t : Tst) (k : Nat) : Tst := ⟨t.n, fun j => t.u (unrot t.n k j), t.leaks, t.least, t.m, fun i => ⟨((turnN t.n k (t.s (rot t.m k i)).shut.toNat : Nat) : Int), (t.s (rot t.m k i)).flow⟩⟩
theorem left_sums (u : Nat → Spn) (f : Spn) (sh : Nat) : ∀ k, leftK u f sh k = ⟨f.lo - sumN (fun i => if hasB sh i then 0 else (u i).hi) k, f.hi - sumN (fun i => if hasB sh i then 0 else (u i).lo) k⟩
  | 0 => by show f = ⟨f.lo - 0, f.hi - 0⟩; rw [Int.sub_zero, Int.sub_zero]
  | k + 1 => by
    unfold leftK sumN
    rw [left_sums u f sh k]
    cases hasB sh k <;> simp only [Bool.false_eq_true, if_false, if_true, Spn.mk.injEq] <;> omega
theorem left_rot (u : Nat → Spn) (f : Spn) (sh : Nat) {n : Nat} (k : Nat) (hn : n ≤ 10) : leftK (fun j => u (unrot n k j)) f (turnN n k sh) n = leftK u f sh n := by
  rw [left_sums, left_sums]
  have e : ∀ g : Spn → Int, sumN (fun i => if hasB (turnN n k sh) i then 0 else g (u (unrot n k i))) n = sumN (fun i => if hasB sh i then 0 else g (u i)) n := fun g => by
    rw [← sumN_rot (fun i => if hasB (turnN n k sh) i then 0 else g (u (unrot n k i))) n k]
    refine sumN_congr fun i hi => ?_
    rw [turn_bit k sh hn hi, unrot_rot k hi]
  rw [e Spn.hi, e Spn.lo]
theorem rest_turn (t : Tst) (k : Nat) (hn : t.n ≤ 10) (i : Nat) : (t.turn k).rest i = ⟨((turnN t.n k (t.s (rot t.m k i)).shut.toNat : Nat) : Int), (t.rest (rot t.m k i)).flow⟩ := by
  show (⟨_, leftK (fun j => t.u (unrot t.n k j)) (t.s (rot t.m k i)).flow ((turnN t.n k (t.s (rot t.m k i)).shut.toNat : Nat) : Int).toNat t.n⟩ : Stp) = _
  rw [Int.toNat_natCast, left_rot _ _ _ k hn]
  rfl
theorem turn_zero (n k : Nat) (hn : n ≤ 10) : turnN n k 0 = 0 :=
  rot_ext k (turn_lt _ _ hn) (Nat.two_pow_pos _) fun s hs => by
    have h := rot_lt (n := n) (by omega) k s
    rw [turn_bit k _ hn hs, zero_st.2.2 s (by omega), zero_st.2.2 _ (by omega)]
theorem turn_one {n i : Nat} (k : Nat) (hn : n ≤ 10) (hi : i < n) : turnN n k (2 ^ i) = 2 ^ rot n k i :=
  rot_ext k (turn_lt _ _ hn) ((Nat.pow_lt_pow_iff_right (by omega)).2 (rot_lt (by omega) _ _)) fun s hs => by
    have h := rot_lt (n := n) (by omega) k s
    have h2 := rot_lt (n := n) (by omega) k i
    rw [turn_bit k _ hn hs, (one_st (by omega)).2.2.2 s (by omega), (one_st (by omega)).2.2.2 _ (by omega), Bool.eq_iff_iff, decide_eq_true_eq, decide_eq_true_eq]
    exact ⟨fun e => by rw [e], fun e => rot_inj hs hi e⟩
/-- two streets in either order -/
theorem two_both {i j : Nat} (hi : i < 10) (hj : j < 10) (hij : i ≠ j) : 2 ^ i + 2 ^ j < 1024 ∧ ∀ s, s < 10 → hasB (2 ^ i + 2 ^ j) s = (decide (s = i) || decide (s = j)) := by
  rcases (by omega : i < j ∨ j < i) with h | h
  · obtain ⟨h1, -, -, h2⟩ := two_st hi hj h
    exact ⟨h1, h2⟩
  · obtain ⟨h1, -, -, h2⟩ := two_st hj hi h
    rw [Nat.add_comm]
    exact ⟨h1, fun s hs => by rw [h2 s hs, Bool.or_comm]⟩
theorem two_lt {i j n : Nat} (hi : i < n) (hj : j < n) (hij : i ≠ j) : 2 ^ i + 2 ^ j < 2 ^ n := by
  have key : ∀ i j : Nat, i < j → j < n → 2 ^ i + 2 ^ j < 2 ^ n := fun i j h hj => by
    have h1 : 2 ^ i < 2 ^ j := (Nat.pow_lt_pow_iff_right (by omega)).2 h
    have h2 : 2 ^ (j + 1) ≤ 2 ^ n := Nat.pow_le_pow_right (by omega) hj
    rw [Nat.pow_succ] at h2
    omega
  rcases (by omega : i < j ∨ j < i) with h | h
  · exact key i j h hj
  · rw [Nat.add_comm]; exact key j i h hi
theorem turn_two {n i j : Nat} (k : Nat) (hn : n ≤ 10) (hi : i < n) (hj : j < n) (hij : i ≠ j) : turnN n k (2 ^ i + 2 ^ j) = 2 ^ rot n k i + 2 ^ rot n k j :=
  have hne : rot n k i ≠ rot n k j := fun e => hij (rot_inj hi hj e)
  rot_ext k (turn_lt _ _ hn) (two_lt (rot_lt (by omega) _ _) (rot_lt (by omega) _ _) hne) fun s hs => by
    have h := rot_lt (n := n) (by omega) k s
    have h2 := rot_lt (n := n) (by omega) k i
    have h3 := rot_lt (n := n) (by omega) k j
    rw [turn_bit k _ hn hs, (two_both (by omega) (by omega) hij).2 s (by omega), (two_both (by omega) (by omega) hne).2 _ (by omega), Bool.eq_iff_iff]
    simp only [Bool.or_eq_true, decide_eq_true_eq]
    exact ⟨fun e => e.imp (fun e => by rw [e]) (fun e => by rw [e]), fun e => e.imp (rot_inj hs hi) (rot_inj hs hj)⟩
/-- the fold over the turned steps -/
theorem fold_turn (t : Tst) (k : Nat) (o : Option Pr) (kd : Nat → Nat) : foldK (fun i o => o.bind (ck (kd (rot t.m k i)) (t.rest (rot t.m k i)).flow)) o t.m = foldK (fun i o => o.bind (ck (kd i) (t.rest i).flow)) o t.m :=
  foldK_rot (F := fun i o => o.bind (ck (kd i) (t.rest i).flow)) (fun _ _ o => ck_comm _ _ _ _ o) o t.m k
theorem gK_turn0 (t : Tst) (k : Nat) (hn : t.n ≤ 10) : gK (t.turn k) 0 t.m = gK t 0 t.m := by
  rw [gK_fold, gK_fold]
  refine Eq.trans ?_ ((fold_turn t k (some (anyP t.least)) (fun _ => 0)).trans ?_)
  · exact foldK_congr fun i hi => by funext o; rw [cut_nil zero_st.1, rest_turn t k hn]
  · exact foldK_congr fun i hi => by funext o; rw [cut_nil zero_st.1]
theorem gK_turn1 (t : Tst) (k : Nat) (hn : t.n ≤ 10) {i : Nat} (hi : i < t.n) : gK (t.turn k) (2 ^ rot t.n k i) t.m = gK t (2 ^ i) t.m := by
  have h2 := rot_lt (n := t.n) (by omega) k i
  rw [gK_fold, gK_fold]
  refine Eq.trans ?_ ((fold_turn t k (some (anyP t.least)) (fun c => kd1 (hasB (t.s c).shut.toNat i))).trans ?_)
  · refine foldK_congr fun c hc => ?_
    funext o
    rw [cut_1 (one_st (show rot t.n k i < 10 by omega)).2.1, rest_turn t k hn]
    dsimp only
    rw [Int.toNat_natCast, turn_bit k _ hn hi]
  · exact foldK_congr fun c hc => by funext o; rw [cut_1 (one_st (show i < 10 by omega)).2.1]; rfl
theorem gK_turn2 (t : Tst) (k : Nat) (hn : t.n ≤ 10) {i j : Nat} (hi : i < t.n) (hj : j < t.n) (hij : i < j) (hr : rot t.n k i < rot t.n k j) : gK (t.turn k) (2 ^ rot t.n k i + 2 ^ rot t.n k j) t.m = gK t (2 ^ i + 2 ^ j) t.m := by
  have h2 := rot_lt (n := t.n) (by omega) k i
  have h3 := rot_lt (n := t.n) (by omega) k j
  rw [gK_fold, gK_fold]
  refine Eq.trans ?_ ((fold_turn t k (some (anyP t.least)) (fun c => kd2 (hasB (t.s c).shut.toNat i) (hasB (t.s c).shut.toNat j))).trans ?_)
  · refine foldK_congr fun c hc => ?_
    funext o
    rw [cut_2 (two_st (show rot t.n k i < 10 by omega) (by omega) hr).2.1, rest_turn t k hn]
    dsimp only
    rw [Int.toNat_natCast, turn_bit k _ hn hi, turn_bit k _ hn hj]
  · exact foldK_congr fun c hc => by funext o; rw [cut_2 (two_st (show i < 10 by omega) (by omega) hij).2.1]; rfl
def swapP (p : Pr) : Pr := ⟨p.b, p.a, p.c⟩
theorem ck_swap (a b : Bool) (f : Spn) (o : Option Pr) : (o.map swapP).bind (ck (kd2 b a) f) = (o.bind (ck (kd2 a b) f)).map swapP := by
  cases o with
  | none => rfl
  | some p =>
    cases a <;> cases b <;> simp only [Option.map_some, Option.bind_some, kd2, ck, Bool.false_eq_true, if_false, if_true]
    · rfl
    · rfl
    · rfl
    · split <;> rfl
theorem foldK_map {α : Type} {F G : Nat → α → α} {h : α → α} (hc : ∀ i o, G i (h o) = h (F i o)) (o : α) : ∀ k, foldK G (h o) k = h (foldK F o k)
  | 0 => rfl
  | k + 1 => by
    show G k (foldK G (h o) k) = h (F k (foldK F o k))
    rw [foldK_map hc o k, hc]
theorem gK_turn3 (t : Tst) (k : Nat) (hn : t.n ≤ 10) {i j : Nat} (hi : i < t.n) (hj : j < t.n) (hij : i < j) (hr : rot t.n k j < rot t.n k i) : gK (t.turn k) (2 ^ rot t.n k j + 2 ^ rot t.n k i) t.m = (gK t (2 ^ i + 2 ^ j) t.m).map swapP := by
  have h2 := rot_lt (n := t.n) (by omega) k i
  have h3 := rot_lt (n := t.n) (by omega) k j
  rw [gK_fold, gK_fold]
  refine Eq.trans ?_ (Eq.trans (fold_turn t k (some (anyP t.least)) (fun c => kd2 (hasB (t.s c).shut.toNat j) (hasB (t.s c).shut.toNat i))) ?_)
  · refine foldK_congr fun c hc => ?_
    funext o
    rw [cut_2 (two_st (show rot t.n k j < 10 by omega) (by omega) hr).2.1, rest_turn t k hn]
    dsimp only
    rw [Int.toNat_natCast, turn_bit k _ hn hi, turn_bit k _ hn hj]
  · have e := foldK_map (h := Option.map swapP) (G := fun c o => o.bind (ck (kd2 (hasB (t.s c).shut.toNat j) (hasB (t.s c).shut.toNat i)) (t.rest c).flow)) (F := fun c o => o.bind (ck (kd2 (hasB (t.s c).shut.toNat i) (hasB (t.s c).shut.toNat j)) (t.rest c).flow)) (fun c o => ck_swap _ _ _ o) (some (anyP t.least)) t.m
    refine Eq.trans e (congrArg (Option.map swapP) ?_)
    exact foldK_congr fun c hc => by funext o; rw [cut_2 (two_st (show i < 10 by omega) (by omega) hij).2.1]; rfl
theorem gR_eq {t t' : Tst} {x y : Nat} (hl : t'.leaks = t.leaks) (hs : sizeN y = sizeN x) (hg : gK t' y t'.m = gK t x t.m) : gR t' y = gR t x := by
  unfold gR narrowI
  rw [hl, hs, hg]
theorem can_swap (p : Pr) : (swapP p).can = p.can := by
  rw [Bool.eq_iff_iff, can_iff, can_iff]
  simp only [swapP]
  omega
theorem gR_swap {t t' : Tst} {x y : Nat} (hl : t'.leaks = t.leaks) (hs : sizeN y = sizeN x) (h2 : sizeN x = 2) (hg : gK t' y t'.m = (gK t x t.m).map swapP) : gR t' y = (gR t x).map swapP := by
  unfold gR narrowI
  rw [hl, hs, hg, h2]
  split
  · rfl
  · cases gK t x t.m with
    | none => rfl
    | some p =>
      simp only [Option.map_some, Option.bind_some, if_true]
      have e : (swapP p).narrow = swapP p.narrow := rfl
      rw [e, can_swap]
      split <;> rfl
theorem cont_none {t : Tst} {s x : Nat} (h : gR t x = none) : cont t s x = none := by unfold cont; rw [h]
theorem cont_some {t : Tst} {s x : Nat} {p : Pr} (h : gR t x = some p) : cont t s x = if hasB x s then some (spanAt x p s) else none := by unfold cont; rw [h]
theorem turn_gR {t : Tst} (hk : t.Ok) (k : Nat) {x : Nat} (hx : x < 2 ^ t.n) : (gR (t.turn k) (turnN t.n k x)).isSome = (gR t x).isSome ∧ ∀ s, s < t.n → cont (t.turn k) (rot t.n k s) (turnN t.n k x) = cont t s x := by
  have hn := hk.n2
  have h10 := pow_ten hn
  have hsz := turn_size k hn hx
  by_cases h2 : sizeN x ≤ 2
  · rcases few (x := x) (by omega) h2 with rfl | ⟨i, hi, rfl⟩ | ⟨i, j, hi, hj, hij, rfl⟩
    · rw [turn_zero _ _ hn]
      have e : gR (t.turn k) 0 = gR t 0 := gR_eq rfl rfl (gK_turn0 t k hn)
      rw [e]
      refine ⟨rfl, fun s hs => ?_⟩
      have h := rot_lt (n := t.n) (by omega) k s
      cases hg : gR t 0 with
      | none => rw [cont_none hg, cont_none (e.trans hg)]
      | some p => rw [cont_some hg, cont_some (e.trans hg), zero_st.2.2 s (by omega), zero_st.2.2 _ (by omega)]; rfl
    · have hin : i < t.n := pow_lt_of hx
      have hr := rot_lt (n := t.n) (by omega) k i
      rw [turn_one k hn hin] at hsz ⊢
      have e : gR (t.turn k) (2 ^ rot t.n k i) = gR t (2 ^ i) := gR_eq rfl hsz (gK_turn1 t k hn hin)
      rw [e]
      refine ⟨rfl, fun s hs => ?_⟩
      have h := rot_lt (n := t.n) (by omega) k s
      obtain ⟨-, a2, -, a4⟩ := one_st (show i < 10 by omega)
      obtain ⟨-, b2, -, b4⟩ := one_st (show rot t.n k i < 10 by omega)
      cases hg : gR t (2 ^ i) with
      | none => rw [cont_none hg, cont_none (e.trans hg)]
      | some p =>
        rw [cont_some hg, cont_some (e.trans hg), a4 s (by omega), b4 _ (by omega)]
        by_cases hsi : s = i
        · subst hsi; rw [span_a p a2, span_a p b2, decide_eq_true rfl, decide_eq_true rfl]
        · rw [decide_eq_false hsi, decide_eq_false (fun e9 => hsi (rot_inj hs hin e9))]; rfl
    · have hjn : j < t.n := pow_lt_of (Nat.lt_of_le_of_lt (Nat.le_add_left _ _) hx)
      have hin : i < t.n := by omega
      have hr := rot_lt (n := t.n) (by omega) k i
      have hr2 := rot_lt (n := t.n) (by omega) k j
      have hne : rot t.n k i ≠ rot t.n k j := fun e9 => by have := rot_inj hin hjn e9; omega
      rw [turn_two k hn hin hjn (by omega)] at hsz ⊢
      obtain ⟨-, a2, a3, a4⟩ := two_st hi hj hij
      by_cases hlt : rot t.n k i < rot t.n k j
      · obtain ⟨-, b2, b3, b4⟩ := two_st (show rot t.n k i < 10 by omega) (by omega) hlt
        have e : gR (t.turn k) (2 ^ rot t.n k i + 2 ^ rot t.n k j) = gR t (2 ^ i + 2 ^ j) := gR_eq rfl hsz (gK_turn2 t k hn hin hjn hij hlt)
        rw [e]
        refine ⟨rfl, fun s hs => ?_⟩
        have h := rot_lt (n := t.n) (by omega) k s
        cases hg : gR t (2 ^ i + 2 ^ j) with
        | none => rw [cont_none hg, cont_none (e.trans hg)]
        | some p =>
          rw [cont_some hg, cont_some (e.trans hg), a4 s (by omega), b4 _ (by omega)]
          by_cases hsi : s = i
          · subst hsi; rw [span_a p a2, span_a p b2, decide_eq_true rfl, decide_eq_true rfl]; rfl
          · rw [decide_eq_false hsi, decide_eq_false (fun e9 => hsi (rot_inj hs hin e9))]
            by_cases hsj : s = j
            · subst hsj; rw [span_b p a2 (Ne.symm hsi), span_b p b2 hne, decide_eq_true rfl, decide_eq_true rfl]
            · rw [decide_eq_false hsj, decide_eq_false (fun e9 => hsj (rot_inj hs hjn e9))]; rfl
      · have hlt : rot t.n k j < rot t.n k i := by omega
        rw [Nat.add_comm] at hsz
        rw [Nat.add_comm (2 ^ rot t.n k i)]
        obtain ⟨-, b2, b3, b4⟩ := two_st (show rot t.n k j < 10 by omega) (by omega) hlt
        have e : gR (t.turn k) (2 ^ rot t.n k j + 2 ^ rot t.n k i) = (gR t (2 ^ i + 2 ^ j)).map swapP := gR_swap rfl hsz a3 (gK_turn3 t k hn hin hjn hij hlt)
        rw [e]
        refine ⟨by cases gR t (2 ^ i + 2 ^ j) <;> rfl, fun s hs => ?_⟩
        have h := rot_lt (n := t.n) (by omega) k s
        cases hg : gR t (2 ^ i + 2 ^ j) with
        | none => rw [cont_none hg, cont_none (by rw [e, hg]; rfl)]
        | some p =>
          have e2 : gR (t.turn k) (2 ^ rot t.n k j + 2 ^ rot t.n k i) = some (swapP p) := by rw [e, hg]; rfl
          rw [cont_some hg, cont_some e2, a4 s (by omega), b4 _ (by omega)]
          by_cases hsi : s = i
          · subst hsi
            rw [span_a p a2, span_b (swapP p) b2 (Ne.symm hne), decide_eq_true rfl, decide_eq_true rfl, Bool.or_true, Bool.true_or]; rfl
          · rw [decide_eq_false hsi, decide_eq_false (fun e9 => hsi (rot_inj hs hin e9))]
            by_cases hsj : s = j
            · subst hsj; rw [span_b p a2 (Ne.symm hsi), span_a (swapP p) b2, decide_eq_true rfl, decide_eq_true rfl]; rfl
            · rw [decide_eq_false hsj, decide_eq_false (fun e9 => hsj (rot_inj hs hjn e9))]; rfl
  · have hl := hk.l1
    have e1 : gR t x = none := by unfold gR; rw [if_pos (by omega)]
    have e2 : gR (t.turn k) (turnN t.n k x) = none := by
      unfold gR
      rw [if_pos (by rw [hsz]; show t.leaks < _; omega)]
    rw [e1, e2]
    exact ⟨rfl, fun s hs => by rw [cont_none e1, cont_none e2]⟩
/-- a set, or any other number, turned -/
def turnZ (n k : Nat) (z : Int) : Int := if 0 ≤ z ∧ z < ((2 ^ n : Nat) : Int) then ((turnN n k z.toNat : Nat) : Int) else z
/-- a street, or any other number, turned -/
def ownZ (n k : Nat) (z : Int) : Int := if 0 ≤ z ∧ z < (n : Int) then ((rot n k z.toNat : Nat) : Int) else z
theorem turnZ_nat {n k x : Nat} (hx : x < 2 ^ n) : turnZ n k (x : Nat) = ((turnN n k x : Nat) : Int) := by
  unfold turnZ
  rw [if_pos ⟨by omega, by omega⟩, Int.toNat_natCast]
theorem turn_ok {t : Tst} (hv : t.valid = true) (k : Nat) : (t.turn k).valid = true := by
  have hk := Tst.ok hv
  simp only [Tst.valid, Bool.and_eq_true, Bool.not_eq_true'] at hv ⊢
  obtain ⟨h2, h3, h4⟩ := hv
  have hn0 : 0 < t.n := hk.n1
  refine ⟨?_, ?_, ?_⟩
  · rw [head_iff] at *; exact h2
  · refine anyB_none fun c hc => ?_
    show badU (t.u (unrot t.n k c)) = false
    unfold badU
    rw [hk.u _ (unrot_lt k hc)]; rfl
  · refine anyB_none fun c hc => ?_
    have hc' : c < t.m := hc
    have hr : rot t.m k c < t.m := rot_lt (by omega) _ _
    show badS (top t.n) ⟨((turnN t.n k (t.s (rot t.m k c)).shut.toNat : Nat) : Int), (t.s (rot t.m k c)).flow⟩ = false
    unfold badS
    rw [hk.f _ hr, within_yes (by
      show 0 ≤ ((turnN t.n k (t.s (rot t.m k c)).shut.toNat : Nat) : Int) ∧ ((turnN t.n k (t.s (rot t.m k c)).shut.toNat : Nat) : Int) ≤ ((2 ^ t.n : Nat) : Int) - 1
      have h9 := turn_lt k (t.s (rot t.m k c)).shut.toNat hk.n2
      have q9 : ∀ a N : Nat, a < N → 0 ≤ ((a : Nat) : Int) ∧ ((a : Nat) : Int) ≤ (N : Int) - 1 := fun a N h => by omega
      exact q9 _ _ h9)]
    rfl
theorem turn_fit {t : Tst} (hk : t.Ok) (k : Nat) : (t.turn k).fitB = t.fitB := by
  rw [Bool.eq_iff_iff, fit_iff, fit_iff]
  constructor
  · rintro ⟨y, hy, h⟩
    obtain ⟨x, hx, rfl⟩ := turn_surj k hk.n2 hy
    exact ⟨x, hx, (turn_gR hk k hx).1 ▸ h⟩
  · rintro ⟨x, hx, h⟩
    exact ⟨turnN t.n k x, turn_lt _ _ hk.n2, (turn_gR hk k hx).1.trans h⟩
theorem turn_err {t : Tst} (hv : t.valid = true) (k : Nat) : (t.turn k).err = t.err := by
  unfold Tst.err
  rw [turn_ok hv k, hv, turn_fit (Tst.ok hv) k]
theorem turn_can {t : Tst} (hk : t.Ok) (k : Nat) : (verd (t.turn k)).can = turnN t.n k (verd t).can := by
  have e1 : ∀ s, hasB (verd t).can s = anyB (2 ^ t.n) (fun x => (gR t x).isSome && hasB x s) := fun s => can_fold t s _
  have e2 : ∀ s, hasB (verd (t.turn k)).can s = anyB (2 ^ t.n) (fun x => (gR (t.turn k) x).isSome && hasB x s) := fun s => can_fold (t.turn k) s _
  refine rot_ext (n := t.n) k (bits_lt (t := t.turn k) (2 ^ t.n) (Nat.le_refl _)).1 (turn_lt _ _ hk.n2) fun s hs => ?_
  rw [turn_bit k _ hk.n2 hs, e1, e2, Bool.eq_iff_iff, anyB_iff, anyB_iff]
  constructor
  · rintro ⟨y, hy, h⟩
    obtain ⟨x, hx, rfl⟩ := turn_surj k hk.n2 hy
    rw [(turn_gR hk k hx).1, turn_bit k _ hk.n2 hs] at h
    exact ⟨x, hx, h⟩
  · rintro ⟨x, hx, h⟩
    exact ⟨turnN t.n k x, turn_lt _ _ hk.n2, by rw [(turn_gR hk k hx).1, turn_bit k _ hk.n2 hs]; exact h⟩
theorem all_one : (List.range 11).all (fun n => (List.range n).all fun s => hasB (2 ^ n - 1) s) = true := by kernel_rfl
theorem turn_surely {t : Tst} (hk : t.Ok) (k : Nat) : (verd (t.turn k)).surely = turnN t.n k (verd t).surely := by
  have e1 : ∀ s, hasB (verd t).surely s = (hasB (2 ^ t.n - 1) s && allB (2 ^ t.n) (fun x => !(gR t x).isSome || hasB x s)) := fun s => surely_fold t s _
  have e2 : ∀ s, hasB (verd (t.turn k)).surely s = (hasB (2 ^ t.n - 1) s && allB (2 ^ t.n) (fun x => !(gR (t.turn k) x).isSome || hasB x s)) := fun s => surely_fold (t.turn k) s _
  have one : ∀ s, s < t.n → hasB (2 ^ t.n - 1) s = true := fun s hs => List.all_eq_true.1 (List.all_eq_true.1 all_one t.n (List.mem_range.2 (by have := hk.n2; omega))) s (List.mem_range.2 hs)
  refine rot_ext (n := t.n) k (bits_lt (t := t.turn k) (2 ^ t.n) (Nat.le_refl _)).2 (turn_lt _ _ hk.n2) fun s hs => ?_
  rw [turn_bit k _ hk.n2 hs, e1, e2, one s hs, one _ (rot_lt (by omega) _ _), Bool.true_and, Bool.true_and, Bool.eq_iff_iff, allB_iff, allB_iff]
  constructor
  · intro h x hx
    have := h _ (turn_lt k x hk.n2)
    rw [(turn_gR hk k hx).1, turn_bit k _ hk.n2 hs] at this
    exact this
  · intro h y hy
    obtain ⟨x, hx, rfl⟩ := turn_surj k hk.n2 hy
    rw [(turn_gR hk k hx).1, turn_bit k _ hk.n2 hs]
    exact h x hx
theorem turn_leaks {t : Tst} (hv : t.valid = true) (k : Nat) {s : Nat} (hs : s < t.n) : (if hasB (verd (t.turn k)).can (rot t.n k s) then some ((verd (t.turn k)).leaks (rot t.n k s)) else none) = (if hasB (verd t).can s then some ((verd t).leaks s) else none) := by
  have hk := Tst.ok hv
  refine OptHull.unique (verd_hull (Tst.ok (turn_ok hv k)) (s := rot t.n k s) (rot_lt (n := t.n) (by omega) k s)) (verd_hull hk hs) fun a => ?_
  constructor
  · rintro ⟨y, hy, h⟩
    obtain ⟨x, hx, rfl⟩ := turn_surj k hk.n2 hy
    rw [(turn_gR hk k hx).2 s hs] at h
    exact ⟨x, hx, h⟩
  · rintro ⟨x, hx, h⟩
    exact ⟨turnN t.n k x, turn_lt _ _ hk.n2, ((turn_gR hk k hx).2 s hs).trans h⟩
theorem turn_res {t : Tst} (hv : t.valid = true) (k : Nat) : (t.turn k).canR = turnN t.n k t.canR ∧ (t.turn k).surelyR = turnN t.n k t.surelyR := by
  have hk := Tst.ok hv
  unfold Tst.canR Tst.surelyR
  rw [turn_err hv k, turn_can hk k, turn_surely hk k]
  split
  · exact ⟨rfl, rfl⟩
  · exact ⟨(turn_zero _ _ hk.n2).symm, (turn_zero _ _ hk.n2).symm⟩
theorem turn_leak {t : Tst} (hv : t.valid = true) (k : Nat) (z : Int) : (t.turn k).leakErr (ownZ t.n k z) = t.leakErr z ∧ (t.turn k).leakR (ownZ t.n k z) = t.leakR z := by
  have hk := Tst.ok hv
  have hv2 := turn_ok hv k
  by_cases hz : 0 ≤ z ∧ z < (t.n : Int)
  · obtain ⟨s, rfl⟩ : ∃ s : Nat, z = s := ⟨z.toNat, by omega⟩
    have hs : s < t.n := by omega
    have hr := rot_lt (n := t.n) (by omega) k s
    have e0 : ownZ t.n k (s : Nat) = ((rot t.n k s : Nat) : Int) := by unfold ownZ; rw [if_pos hz, Int.toNat_natCast]
    rw [e0]
    have hw1 : withinB ((rot t.n k s : Nat) : Int) 0 (((t.turn k).n : Int) - 1) = true := within_yes ⟨by omega, by show _ ≤ ((t.n : Nat) : Int) - 1; omega⟩
    have hw2 : withinB ((s : Nat) : Int) 0 ((t.n : Int) - 1) = true := within_yes ⟨by omega, by omega⟩
    have hl := turn_leaks hv k hs
    have hc : hasB (verd (t.turn k)).can (rot t.n k s) = hasB (verd t).can s := by rw [turn_can hk k, turn_bit k _ hk.n2 hs]
    have he : (t.turn k).leakErr ((rot t.n k s : Nat) : Int) = t.leakErr (s : Nat) := by
      unfold Tst.leakErr
      rw [hv, hv2, hw1, hw2, turn_fit hk k, Int.toNat_natCast, Int.toNat_natCast, hc]
    refine ⟨he, ?_⟩
    unfold Tst.leakR
    rw [he]
    by_cases h0 : t.leakErr (s : Nat) = 0
    · rw [if_pos h0, if_pos h0, Int.toNat_natCast, Int.toNat_natCast]
      have h4 := (leakErr_zero.1 h0).2.2.2
      rw [Int.toNat_natCast] at h4
      rw [hc, h4] at hl
      simpa using hl
    · rw [if_neg h0, if_neg h0]
  · have e0 : ownZ t.n k z = z := by unfold ownZ; rw [if_neg hz]
    rw [e0]
    have hw1 : withinB z 0 ((t.n : Int) - 1) = false := within_no (by omega)
    have hw2 : withinB z 0 (((t.turn k).n : Int) - 1) = false := hw1
    have h1 : (t.turn k).leakErr z = 2 := by unfold Tst.leakErr; rw [hv2, hw2]; rfl
    have h2 : t.leakErr z = 2 := by unfold Tst.leakErr; rw [hv, hw1]; rfl
    refine ⟨h1.trans h2.symm, ?_⟩
    unfold Tst.leakR
    rw [h1, h2]; rfl
theorem turnZ_in {n k : Nat} (hn : n ≤ 10) (z : Int) : badV n (turnZ n k z) = badV n z := by
  unfold turnZ
  split
  · rename_i h
    have h9 := turn_lt k z.toNat hn
    unfold badV
    have q9 : ∀ a N : Nat, a < N → 0 ≤ ((a : Nat) : Int) ∧ ((a : Nat) : Int) ≤ (N : Int) - 1 := fun a N h => by omega
    have q8 : ∀ (z : Int) (N : Nat), 0 ≤ z ∧ z < (N : Int) → 0 ≤ z ∧ z ≤ (N : Int) - 1 := fun z N h => by omega
    rw [within_yes (show 0 ≤ ((turnN n k z.toNat : Nat) : Int) ∧ _ ≤ top n from q9 _ _ h9), within_yes (show 0 ≤ z ∧ z ≤ top n from q8 _ _ h)]
  · rfl
theorem best_congr {c c' : Nat} {f f' : Nat → Nat} : ∀ {m}, (∀ i, i < m → partsN c (f i) = partsN c' (f' i)) → bestV c f m = bestV c' f' m
  | 0, _ => rfl
  | m + 1, h => by
    show (if partsN c (f m) < (bestV c f m).2 then (m, partsN c (f m)) else bestV c f m) = if partsN c' (f' m) < (bestV c' f' m).2 then (m, partsN c' (f' m)) else bestV c' f' m
    rw [best_congr (fun i hi => h i (by omega)), h m (by omega)]
theorem turn_next {t : Tst} (hv : t.valid = true) (k m : Nat) (v : Nat → Int) : (t.turn k).nextErr m (fun i => turnZ t.n k (v i)) = t.nextErr m v ∧ (t.turn k).nextR m (fun i => turnZ t.n k (v i)) = t.nextR m v := by
  have hk := Tst.ok hv
  have hc := (bits_lt (t := t) (2 ^ t.n) (Nat.le_refl _)).1
  have ec : verdF t (gL t (2 ^ t.n)) = verd t := rfl
  rw [ec] at hc
  have hs : sizeN (verd (t.turn k)).can = sizeN (verd t).can := by rw [turn_can hk k, turn_size k hk.n2 hc]
  have hb : anyB m (fun i => badV (t.turn k).n (turnZ t.n k (v i))) = anyB m (fun i => badV t.n (v i)) := by
    congr 1
    funext i
    exact turnZ_in hk.n2 (v i)
  have he : (t.turn k).nextErr m (fun i => turnZ t.n k (v i)) = t.nextErr m v := by
    unfold Tst.nextErr
    rw [turn_ok hv k, hv, hb, turn_fit hk k, hs]
  refine ⟨he, ?_⟩
  unfold Tst.nextR
  rw [he]
  by_cases h0 : t.nextErr m v = 0
  · rw [if_pos h0, if_pos h0, turn_can hk k]
    have hbad : anyB m (fun i => badV t.n (v i)) = false := by
      unfold Tst.nextErr at h0
      rw [hv] at h0
      cases hb9 : anyB m (fun i => badV t.n (v i))
      · rfl
      · rw [hb9] at h0
        simp only [if_true] at h0
        split at h0 <;> cases h0
    refine best_congr fun i hi => ?_
    have hbi : badV t.n (v i) = false := by
      cases h9 : badV t.n (v i)
      · rfl
      · have : anyB m (fun i => badV t.n (v i)) = true := anyB_iff.2 ⟨i, hi, h9⟩
        rw [hbad] at this; cases this
    obtain ⟨a1, a2⟩ := badV_no hbi
    obtain ⟨x, hx⟩ : ∃ x : Nat, v i = x := ⟨(v i).toNat, by omega⟩
    show partsN (turnN t.n k (verd t).can) (turnZ t.n k (v i)).toNat = partsN (verd t).can (v i).toNat
    rw [hx] at a2 ⊢
    rw [Int.toNat_natCast] at a2
    rw [turnZ_nat a2, Int.toNat_natCast, Int.toNat_natCast, turn_parts k hk.n2 hc]
  · rw [if_neg h0, if_neg h0]
end Go.Proofs.YtpognhnmkjpipaaDoor
