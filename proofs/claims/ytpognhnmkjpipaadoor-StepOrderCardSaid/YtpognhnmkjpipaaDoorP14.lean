/- A set of streets with leaks that can have been so fits, and its leaks lie in the spans; plain, no program in sight. The plain law of StepTrue: a truth is among the suspects, its leaks lie in what is told, and what surely leaks does; no program in sight. What truth makes is a valid test, of which it says the truth; plain, no program in sight. -/
import Derived.Test.YtpognhnmkjpipaaDoorP10
namespace Go.Proofs.YtpognhnmkjpipaaDoor
/-- a sum over the streets that are not shut -/
def sumO (f : Nat → Int) (sh : Nat) : Nat → Int
  | 0 => 0
  | k + 1 => sumO f sh k + (if hasB sh k then 0 else f k)
theorem sumO_add (f g : Nat → Int) (sh : Nat) : ∀ k, sumO (fun i => f i + g i) sh k = sumO f sh k + sumO g sh k
  | 0 => rfl
  | k + 1 => by
    unfold sumO
    rw [sumO_add f g sh k]
    split <;> omega
theorem sumO_congr {f g : Nat → Int} {sh : Nat} : ∀ {k}, (∀ i, i < k → f i = g i) → sumO f sh k = sumO g sh k
  | 0, _ => rfl
  | k + 1, h => by
    unfold sumO
    rw [sumO_congr (fun i hi => h i (by omega)), h k (by omega)]
theorem sumO_zero (sh : Nat) : ∀ k, sumO (fun _ => 0) sh k = 0
  | 0 => rfl
  | k + 1 => by
    unfold sumO
    rw [sumO_zero sh k]; split <;> rfl
theorem sumO_one (sh i : Nat) (v : Int) : ∀ k, sumO (fun j => if j = i then v else 0) sh k = if i < k then (if hasB sh i then 0 else v) else 0
  | 0 => rfl
  | k + 1 => by
    unfold sumO
    rw [sumO_one sh i v k]
    by_cases h : k = i
    · subst h
      simp
    · rw [if_neg h]
      by_cases h2 : i < k
      · rw [if_pos h2, if_pos (show i < k + 1 by omega)]; split <;> split <;> omega
      · rw [if_neg h2, if_neg (show ¬ i < k + 1 by omega)]; split <;> omega
theorem left_sum {u : Nat → Spn} {f : Spn} {sh : Nat} {q : Nat → Int} {F : Int} (hF : f.lo ≤ F ∧ F ≤ f.hi) : ∀ k, (∀ i, i < k → (u i).lo ≤ q i ∧ q i ≤ (u i).hi) → (leftK u f sh k).lo ≤ F - sumO q sh k ∧ F - sumO q sh k ≤ (leftK u f sh k).hi
  | 0, _ => by unfold leftK sumO; omega
  | k + 1, h => by
    have ih := left_sum (sh := sh) hF k (fun i hi => h i (by omega))
    have h9 := h k (by omega)
    unfold leftK sumO
    cases hasB sh k
    · simp only [Bool.false_eq_true, if_false]; omega
    · simp only [if_true]; omega
/-- these leaks lie in the spans -/
structure Fits (p : Pr) (A B : Int) : Prop where
  a : p.a.lo ≤ A ∧ A ≤ p.a.hi
  b : p.b.lo ≤ B ∧ B ≤ p.b.hi
  c : p.c.lo ≤ A + B ∧ A + B ≤ p.c.hi
theorem cutS_in {s r : Spn} {v : Int} (h : s.lo ≤ v ∧ v ≤ s.hi) (h2 : r.lo ≤ v ∧ v ≤ r.hi) : (cutS s r).lo ≤ v ∧ v ≤ (cutS s r).hi := by
  simp only [cutS]; omega
theorem cutO_fits {x : Nat} {r : Stp} {p : Pr} {A B : Int} (hp : Fits p A B) (h0 : (opSt r.shut.toNat (stL x)).1 = 0 → r.flow.lo ≤ 0 ∧ 0 ≤ r.flow.hi) (h2 : (opSt r.shut.toNat (stL x)).1 = 2 → r.flow.lo ≤ A + B ∧ A + B ≤ r.flow.hi)
    (h1 : (opSt r.shut.toNat (stL x)).1 = 1 → (opSt r.shut.toNat (stL x)).2 = 0 → r.flow.lo ≤ A ∧ A ≤ r.flow.hi) (h3 : (opSt r.shut.toNat (stL x)).1 = 1 → (opSt r.shut.toNat (stL x)).2 ≠ 0 → r.flow.lo ≤ B ∧ B ≤ r.flow.hi) : ∃ p', cutO x r p = some p' ∧ Fits p' A B := by
  obtain ⟨ha, hb, hc⟩ := hp
  unfold cutO
  split
  · rename_i h
    have := h0 h.1; omega
  · split
    · rename_i h; exact ⟨_, rfl, ha, hb, cutS_in hc (h2 h)⟩
    · split
      · rename_i h; exact ⟨_, rfl, cutS_in ha (h1 h.1 h.2), hb, hc⟩
      · split
        · rename_i h9 h; exact ⟨_, rfl, ha, cutS_in hb (h3 h fun e => h9 ⟨h, e⟩), hc⟩
        · exact ⟨_, rfl, ha, hb, hc⟩
theorem narrowI_fits {x : Nat} {p : Pr} {A B : Int} (hp : Fits p A B) : Fits (narrowI x p) A B := by
  obtain ⟨ha, hb, hc⟩ := hp
  unfold narrowI
  split
  · refine ⟨?_, ?_, hc⟩ <;> simp only [Pr.narrow, cutS] <;> omega
  · exact ⟨ha, hb, hc⟩
theorem fits_can {p : Pr} {A B : Int} (hp : Fits p A B) : p.can = true := by
  obtain ⟨ha, hb, hc⟩ := hp
  rw [can_iff]; omega
/-- what a truth says of a test -/
structure Truth (t : Tst) (x : Nat) (l : Nat → Int) : Prop where
  few : (sizeN x : Int) ≤ t.leaks
  lt : x < 2 ^ t.n
  yes : ∀ s, s < t.n → hasB x s = true → t.least ≤ l s ∧ l s ≤ 1073741824
  no : ∀ s, s < t.n → hasB x s = false → l s = 0
  flow : ∀ i, i < t.m → ∃ q : Nat → Int, (∀ k, k < t.n → (t.u k).lo ≤ q k ∧ q k ≤ (t.u k).hi) ∧ (t.s i).flow.lo ≤ sumO (fun k => l k + q k) (t.s i).shut.toNat t.n ∧ sumO (fun k => l k + q k) (t.s i).shut.toNat t.n ≤ (t.s i).flow.hi
theorem Truth.rest {t : Tst} {x : Nat} {l : Nat → Int} (h : Truth t x l) {i : Nat} (hi : i < t.m) : (t.rest i).flow.lo ≤ sumO l (t.s i).shut.toNat t.n ∧ sumO l (t.s i).shut.toNat t.n ≤ (t.rest i).flow.hi := by
  obtain ⟨q, hq, h1, h2⟩ := h.flow i hi
  have h3 := left_sum (u := t.u) (f := (t.s i).flow) (sh := (t.s i).shut.toNat) (q := q) ⟨h1, h2⟩ t.n hq
  rw [sumO_add] at h3
  show (leftK t.u (t.s i).flow (t.s i).shut.toNat t.n).lo ≤ _ ∧ _ ≤ (leftK t.u (t.s i).flow (t.s i).shut.toNat t.n).hi
  omega
theorem truth_gK {t : Tst} {x : Nat} {A B : Int} (h0 : Fits (anyP t.least) A B) (hst : ∀ i, i < t.m → ∀ p, Fits p A B → ∃ p', cutO x (t.rest i) p = some p' ∧ Fits p' A B) : ∀ k, k ≤ t.m → ∃ p, gK t x k = some p ∧ Fits p A B
  | 0, _ => ⟨_, rfl, h0⟩
  | k + 1, hk => by
    obtain ⟨p, hp, hf⟩ := truth_gK h0 hst k (by omega)
    obtain ⟨p', hp', hf'⟩ := hst k (by omega) p hf
    refine ⟨p', ?_, hf'⟩
    show (gK t x k).bind (cutO x (t.rest k)) = some p'
    rw [hp]; exact hp'
theorem truth_gR {t : Tst} {x : Nat} {A B : Int} (hs : (sizeN x : Int) ≤ t.leaks) (h : ∃ p, gK t x t.m = some p ∧ Fits p A B) : ∃ p, gR t x = some p ∧ Fits p A B := by
  obtain ⟨p, hp, hf⟩ := h
  have hn := narrowI_fits (x := x) hf
  refine ⟨narrowI x p, ?_, hn⟩
  unfold gR
  rw [if_neg (by omega), hp]
  simp only [Option.bind_some]
  rw [if_pos (fits_can hn)]
/-- a truth fits, and its leaks lie in the spans -/
theorem truth_fits {t : Tst} (hk : t.Ok) {x : Nat} {l : Nat → Int} (h : Truth t x l) : ∃ p, gR t x = some p ∧ ∀ s, s < t.n → hasB x s = true → (spanAt x p s).lo ≤ l s ∧ l s ≤ (spanAt x p s).hi := by
  have hn2 := hk.n2
  have h10 := pow_ten hn2
  have hl1 := hk.l1
  have he0 := hk.e0
  have he1 := hk.e1
  have hfew := h.few
  have hlt := h.lt
  rcases few (x := x) (by omega) (by omega) with rfl | ⟨i, hi, rfl⟩ | ⟨i, j, hi, hj, hij, rfl⟩
  · obtain ⟨p, hp, -⟩ := truth_gR (A := t.least) (B := t.least) hfew (truth_gK ⟨⟨Int.le_refl _, he1⟩, ⟨Int.le_refl _, he1⟩, by show 0 ≤ t.least + t.least; omega, by show t.least + t.least ≤ 2147483648; omega⟩ (fun i hi p hp => by
      have hr := h.rest hi
      rw [sumO_congr (g := fun _ => 0) (fun k hk9 => h.no k hk9 (zero_st.2.2 k (by omega))), sumO_zero] at hr
      refine cutO_fits hp (fun _ => hr) ?_ ?_ ?_ <;> rw [zero_st.1, op_nil] <;> intro h9 <;> cases h9) t.m (Nat.le_refl _))
    exact ⟨p, hp, fun s hs hb => by rw [zero_st.2.2 s (by omega)] at hb; cases hb⟩
  · obtain ⟨-, hst, hsz, hbb⟩ := one_st hi
    have hin : i < t.n := pow_lt_of hlt
    have hA := h.yes i hin (by rw [hbb i hi]; simp)
    have hL : ∀ k, k < t.n → l k = if k = i then l i else 0 := fun k hk9 => by
      by_cases hki : k = i
      · subst hki; rw [if_pos rfl]
      · rw [if_neg hki]; exact h.no k hk9 (by rw [hbb k (by omega)]; exact decide_eq_false hki)
    obtain ⟨p, hp, hf⟩ := truth_gR (A := l i) (B := l i) hfew (truth_gK ⟨hA, hA, by show 0 ≤ l i + l i; omega, by show l i + l i ≤ 2147483648; omega⟩ (fun k hk9 p hp => by
      have hr := h.rest hk9
      rw [sumO_congr hL, sumO_one, if_pos hin] at hr
      have hT : (t.rest k).shut.toNat = (t.s k).shut.toNat := rfl
      refine cutO_fits hp ?_ ?_ ?_ ?_ <;> rw [hT, hst, op_one] <;> cases hb : hasB (t.s k).shut.toNat i <;> rw [hb] at hr <;> simp only [Bool.false_eq_true, if_false, if_true] at hr ⊢ <;> intros <;> first | exact hr | omega) t.m (Nat.le_refl _))
    refine ⟨p, hp, fun s hs hb => ?_⟩
    rw [hbb s (by omega)] at hb
    obtain rfl : s = i := by simpa using hb
    rw [span_a _ hst]; exact hf.a
  · obtain ⟨-, hst, hsz, hbb⟩ := two_st hi hj hij
    have hjn : j < t.n := pow_lt_of (Nat.lt_of_le_of_lt (Nat.le_add_left _ _) hlt)
    have hin : i < t.n := by omega
    have hA := h.yes i hin (by rw [hbb i hi]; simp)
    have hB := h.yes j hjn (by rw [hbb j hj]; simp)
    have hL : ∀ k, k < t.n → l k = (if k = i then l i else 0) + (if k = j then l j else 0) := fun k hk9 => by
      by_cases hki : k = i
      · subst hki; rw [if_pos rfl, if_neg (by omega)]; omega
      · by_cases hkj : k = j
        · subst hkj; rw [if_neg hki, if_pos rfl]; omega
        · rw [if_neg hki, if_neg hkj, h.no k hk9 (by rw [hbb k (by omega), decide_eq_false hki, decide_eq_false hkj]; rfl)]; rfl
    obtain ⟨p, hp, hf⟩ := truth_gR (A := l i) (B := l j) hfew (truth_gK ⟨hA, hB, by show 0 ≤ l i + l j; omega, by show l i + l j ≤ 2147483648; omega⟩ (fun k hk9 p hp => by
      have hr := h.rest hk9
      rw [sumO_congr hL, sumO_add, sumO_one, sumO_one, if_pos hin, if_pos hjn] at hr
      have hT : (t.rest k).shut.toNat = (t.s k).shut.toNat := rfl
      refine cutO_fits hp ?_ ?_ ?_ ?_ <;> rw [hT, hst, op_two] <;> cases hb : hasB (t.s k).shut.toNat i <;> cases hb2 : hasB (t.s k).shut.toNat j <;> rw [hb, hb2] at hr <;> simp only [Bool.false_eq_true, if_false, if_true] at hr ⊢ <;> intros <;> omega) t.m (Nat.le_refl _))
    refine ⟨p, hp, fun s hs hb => ?_⟩
    rw [hbb s (by omega)] at hb
    by_cases hsi : s = i
    · subst hsi; rw [span_a _ hst]; exact hf.a
    · obtain rfl : s = j := by simpa [hsi] using hb
      rw [span_b _ hst (Ne.symm hsi)]; exact hf.b
end Go.Proofs.YtpognhnmkjpipaaDoor
namespace Go.Proofs.YtpognhnmkjpipaaDoor
theorem true_law {t : Tst} {x : Nat} {l : Nat → Int} (hv : t.valid = true) (h : Truth t x l) :
    t.err = 0 ∧ x ^^^ (x &&& t.canR) = 0 ∧ t.surelyR ^^^ (t.surelyR &&& x) = 0 ∧ (x = 0 → t.soundR = true) ∧ (t.soundR = true → t.surelyR = 0) ∧
    ∀ s, s < t.n → (hasB x s = true → t.leakErr s = 0 ∧ (t.leakR s).lo ≤ l s ∧ l s ≤ (t.leakR s).hi) ∧ (t.leakErr s = 0 → hasB t.canR s = true ∧ t.least ≤ (t.leakR s).lo ∧ (t.leakR s).lo ≤ (t.leakR s).hi) ∧ (t.leakErr s ≠ 0 → t.leakErr s = 4 ∧ hasB t.canR s = false) := by
  have hk := Tst.ok hv
  obtain ⟨p, hp, hin⟩ := truth_fits hk h
  have hf : t.fitB = true := by rw [fit_iff]; exact ⟨x, h.lt, by rw [hp]; rfl⟩
  have he : t.err = 0 := by unfold Tst.err; rw [hv, hf]; rfl
  obtain ⟨-, -, ec, es⟩ := res_ok he
  have e1 : ∀ s, hasB (verd t).surely s = (hasB (2 ^ t.n - 1) s && allB (2 ^ t.n) (fun x => !(gR t x).isSome || hasB x s)) := fun s => surely_fold t s _
  have e2 : ∀ s, hasB (verd t).can s = anyB (2 ^ t.n) (fun x => (gR t x).isSome && hasB x s) := fun s => can_fold t s _
  have e3 : (verd t).sound = anyB (2 ^ t.n) (fun x => (gR t x).isSome && decide (x = 0)) := sound_fold t (2 ^ t.n)
  have eso : t.soundR = (verd t).sound := by unfold Tst.soundR; rw [if_pos he]
  have hcan : ∀ s, hasB x s = true → hasB (verd t).can s = true := fun s hs => by
    rw [e2, anyB_iff]; exact ⟨x, h.lt, by rw [hp, hs]; rfl⟩
  have hsur : ∀ y, y < 2 ^ t.n → (gR t y).isSome = true → ∀ s, hasB (verd t).surely s = true → hasB y s = true := fun y hy hg s hs => by
    rw [e1, Bool.and_eq_true, allB_iff] at hs
    have := hs.2 y hy
    rw [hg] at this
    simpa using this
  refine ⟨he, by rw [ec]; exact sub_zero hcan, by rw [es]; exact sub_zero (hsur x h.lt (by rw [hp]; rfl)), fun hx => ?_, fun hs => ?_, fun s hs => ⟨fun hb => ?_, fun h0 => ?_, fun h0 => ?_⟩⟩
  · rw [eso, e3, anyB_iff]
    exact ⟨x, h.lt, by rw [hp, hx]; rfl⟩
  · rw [eso, e3, anyB_iff] at hs
    obtain ⟨y, hy, hg⟩ := hs
    simp only [Bool.and_eq_true, decide_eq_true_eq] at hg
    obtain ⟨hg, rfl⟩ := hg
    rw [es]
    have := sub_zero (a := (verd t).surely) (b := 0) (hsur 0 hy hg)
    simpa using this
  · have hz : t.leakErr s = 0 := leakErr_zero.2 ⟨hv, within_yes (by omega), hf, by rw [Int.toNat_natCast]; exact hcan s hb⟩
    have hh := leakErr_hull hs hz
    have h1 := hh.le (spanAt x p s) ⟨x, h.lt, by unfold cont; rw [hp]; simp only [hb, if_true]⟩
    have h2 := hin s hs hb
    exact ⟨hz, by omega, by omega⟩
  · obtain ⟨-, k1, k2, -⟩ := leak_facts hs h0
    have h4 := (leakErr_zero.1 h0).2.2.2
    rw [Int.toNat_natCast] at h4
    exact ⟨by rw [ec]; exact h4, k2, k1⟩
  · have hw : withinB (s : Int) 0 ((t.n : Int) - 1) = true := within_yes (by omega)
    have hc : hasB (verd t).can s = false := by
      cases hc : hasB (verd t).can s
      · rfl
      · exact absurd (leakErr_zero.2 ⟨hv, hw, hf, by rw [Int.toNat_natCast]; exact hc⟩) h0
    refine ⟨?_, by rw [ec]; exact hc⟩
    unfold Tst.leakErr
    rw [hv, hw, hf, Int.toNat_natCast, hc]; rfl
end Go.Proofs.YtpognhnmkjpipaaDoor
namespace Go.Proofs.YtpognhnmkjpipaaDoor
/-- a step that truth has made -/
def StepOk (u : Nat → Spn) (l : Nat → Int) (n : Nat) (st : Stp) : Prop := ∃ (F : Int) (sh : Nat) (q : Nat → Int), st.shut = (sh : Nat) ∧ sh < 2 ^ n ∧ (∀ b, b < n → (u b).lo ≤ q b ∧ q b ≤ (u b).hi) ∧ F = sumO (fun b => l b + q b) sh n ∧ 0 ≤ st.flow.lo ∧ st.flow.lo ≤ F ∧ F ≤ st.flow.hi ∧ st.flow.hi ≤ 1000000
theorem steps_put {u : Nat → Spn} {l : Nat → Int} {n m : Nat} {s : Nat → Stp} {v : Stp} (h : ∀ c, c < m → StepOk u l n (s c)) (hv : StepOk u l n v) : ∀ c, c < m + 1 → StepOk u l n (if c = m then v else s c) := fun c hc => by
  by_cases hcm : c = m
  · rw [if_pos hcm]; exact hv
  · rw [if_neg hcm]; exact h c (by omega)
theorem truth_valid {n k S m x : Nat} {u : Nat → Spn} {l : Nat → Int} {s : Nat → Stp} (hn1 : 1 ≤ n) (hn2 : n ≤ 10) (hk : k ≤ 2) (hS1 : 1 ≤ S) (hS2 : S ≤ 30) (hm : m ≤ 12)
    (hx : x < 2 ^ n) (hsz : sizeN x ≤ k) (h1 : ∀ s, s < 10 → hasB x s = true → (S : Int) ≤ l s ∧ l s ≤ (S : Int) + 40) (h0 : ∀ s, s < 10 → hasB x s = false → l s = 0)
    (hu : ∀ c, c < n → 0 ≤ (u c).lo ∧ (u c).lo ≤ (u c).hi ∧ (u c).hi ≤ 16) (hs : ∀ c, c < m → StepOk u l n (s c)) :
    (⟨n, u, (k : Nat), (S : Nat), m, s⟩ : Tst).valid = true ∧ Truth ⟨n, u, (k : Nat), (S : Nat), m, s⟩ x l := by
  have q : ∀ b : Spn, 0 ≤ b.lo → b.lo ≤ b.hi → b.hi ≤ 1073741824 → litB b = true := fun b h1 h2 h3 => by
    simp only [litB, spanB, decide_eq_true_eq]
    omega
  refine ⟨?_, ?_⟩
  · simp only [Tst.valid, Bool.and_eq_true, Bool.not_eq_true']
    refine ⟨?_, ?_, ?_⟩
    · rw [head_iff]
      refine ⟨⟨?_, ?_⟩, ⟨?_, ?_⟩, ⟨?_, ?_⟩, ?_⟩
      · show 1 ≤ ((n : Nat) : Int); omega
      · show ((n : Nat) : Int) ≤ 10; omega
      · show 0 ≤ ((k : Nat) : Int); omega
      · show ((k : Nat) : Int) ≤ 2; omega
      · show 1 ≤ ((S : Nat) : Int); omega
      · show ((S : Nat) : Int) ≤ 1073741824; omega
      · exact hm
    · refine anyB_none fun c hc => ?_
      show badU (u c) = false
      obtain ⟨a1, a2, a3⟩ := hu c hc
      unfold badU
      rw [q (u c) a1 a2 (by omega)]; rfl
    · refine anyB_none fun c hc => ?_
      show badS (top n) (s c) = false
      obtain ⟨F, sh, q', a1, a2, -, -, a3, a4, a5, a6⟩ := hs c hc
      unfold badS
      rw [q (s c).flow a3 (by omega) (by omega), within_yes (by
        rw [a1]
        show 0 ≤ ((sh : Nat) : Int) ∧ ((sh : Nat) : Int) ≤ ((2 ^ n : Nat) : Int) - 1
        have q9 : ∀ N : Nat, sh < N → 0 ≤ ((sh : Nat) : Int) ∧ ((sh : Nat) : Int) ≤ (N : Int) - 1 := fun N h => by omega
        exact q9 _ a2)]
      rfl
  · refine ⟨?_, hx, fun c hc hb => ?_, fun c hc hb => ?_, fun c hc => ?_⟩
    · show ((sizeN x : Nat) : Int) ≤ ((k : Nat) : Int); omega
    · have hc' : c < n := hc
      have := h1 c (by omega) hb
      show ((S : Nat) : Int) ≤ l c ∧ l c ≤ 1073741824
      omega
    · have hc' : c < n := hc
      exact h0 c (by omega) hb
    · obtain ⟨F, sh, q', a1, a2, a3, a4, -, a5, a6, -⟩ := hs c hc
      refine ⟨q', a3, ?_⟩
      show (s c).flow.lo ≤ sumO (fun k => l k + q' k) (s c).shut.toNat n ∧ sumO (fun k => l k + q' k) (s c).shut.toNat n ≤ (s c).flow.hi
      rw [a1, Int.toNat_natCast, ← a4]
      exact ⟨a5, a6⟩
end Go.Proofs.YtpognhnmkjpipaaDoor
