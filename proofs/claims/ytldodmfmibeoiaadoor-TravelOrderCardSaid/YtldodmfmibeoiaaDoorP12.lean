/- Travel, plain: the document's search for a clash, set by set in lexicographic order, finds what the program's finds. -/
import Derived.Test.YtldodmfmibeoiaaDoorR3
namespace Go.Proofs.YtldodmfmibeoiaaDoor
open Go.RowKit
/-- trips, by number, in order -/
def GoodL (n : Nat) (M : List Nat) : Prop := M.Pairwise (· < ·) ∧ ∀ m ∈ M, m < n
/-- the set that a list is -/
def setL : List Nat → Nat
  | [] => 0
  | m :: M => 2 ^ m ||| setL M
theorem setL_bit (k : Nat) : ∀ M, (setL M).testBit k = decide (k ∈ M)
  | [] => by simp [setL]
  | m :: M => by
    unfold setL
    rw [Nat.testBit_or, Nat.testBit_two_pow, setL_bit k M]
    by_cases h : k = m
    · subst h; simp
    · simp [h, Ne.symm h]
theorem setL_lt {n : Nat} {M : List Nat} (h : ∀ m ∈ M, m < n) : setL M < 2 ^ n := by
  refine Nat.lt_pow_two_of_testBit _ fun i hi => ?_
  rw [setL_bit]
  simp only [decide_eq_false_iff_not]
  intro h9
  have := h i h9
  omega
theorem sorted_ext : ∀ {A B : List Nat}, A.Pairwise (· < ·) → B.Pairwise (· < ·) → (∀ k, k ∈ A ↔ k ∈ B) → A = B
  | [], [], _, _, _ => rfl
  | [], b :: B, _, _, h => absurd ((h b).2 (by simp)) (by simp)
  | a :: A, [], _, _, h => absurd ((h a).1 (by simp)) (by simp)
  | a :: A, b :: B, hA, hB, h => by
    rw [List.pairwise_cons] at hA hB
    have hab : a = b := by
      have h1 := (h a).1 (by simp)
      have h2 := (h b).2 (by simp)
      rcases List.mem_cons.1 h1 with e | h1
      · exact e
      · rcases List.mem_cons.1 h2 with e | h2
        · exact e.symm
        · have := hA.1 b h2
          have := hB.1 a h1
          omega
    subst hab
    have := sorted_ext hA.2 hB.2 fun k => by
      have h1 := h k
      rw [List.mem_cons, List.mem_cons] at h1
      constructor
      · intro h2
        rcases h1.1 (.inr h2) with e | h3
        · have := hA.1 k h2; omega
        · exact h3
      · intro h2
        rcases h1.2 (.inr h2) with e | h3
        · have := hB.1 k h2; omega
        · exact h3
    rw [this]
theorem mem2_setL {n : Nat} {M : List Nat} (h : GoodL n M) (hn : n ≤ 14) : mem2 (setL M) = M := by
  have h1 := setL_lt h.2
  have h2 : 2 ^ n ≤ 2 ^ 14 := Nat.pow_le_pow_right (by omega) hn
  have h3 : (2 : Nat) ^ 14 = 16384 := rfl
  refine sorted_ext (mem2_sorted _ (by omega)) h.1 fun k => ?_
  rw [mem2_iff _ (by omega), setL_bit]
  simp
theorem good_mem2 {n x : Nat} (hx : x < 2 ^ n) (hn : n ≤ 14) : GoodL n (mem2 x) := by
  have h2 : 2 ^ n ≤ 2 ^ 14 := Nat.pow_le_pow_right (by omega) hn
  have h3 : (2 : Nat) ^ 14 = 16384 := rfl
  exact ⟨mem2_sorted _ (by omega), fun m hm => mem2_lt hn hx hm⟩
/-- do the trips of a list not fit -/
def badL (r : Rnd) (off : Int) (M : List Nat) : Bool := !FitsW r off M.length (fun k => r.t (M.getD k 0))
theorem Rnd.valid_sub {r : Rnd} (hv : r.valid = true) {n : Nat} {t : Nat → Trp} (hn : n ≤ 14) (ht : ∀ k, k < n → ∃ j, j < r.n ∧ t k = r.t j) : (r.sub n t).valid = true := by
  unfold Rnd.valid at hv ⊢
  simp only [Bool.and_eq_true, Bool.not_eq_true'] at hv ⊢
  constructor
  · have h1 := hv.1
    unfold Rnd.head at h1 ⊢
    simp only [Bool.and_eq_true, decide_eq_true_eq] at h1 ⊢
    exact ⟨h1.1, h1.2.1, h1.2.2.1, hn⟩
  · rw [Bool.eq_false_iff]
    intro h9
    obtain ⟨k, hk, h8⟩ := anyB_iff.1 h9
    obtain ⟨j, hj, e⟩ := ht k hk
    have h7 := anyB_iff.2 (show ∃ i, i < r.n ∧ (fun i => badT r.nb r.nm (r.t i)) i = true from ⟨j, hj, by
      have h6 : badT r.nb r.nm (t k) = true := h8
      rw [e] at h6; exact h6⟩)
    rw [hv.2] at h7
    cases h7
theorem getD_mem {M : List Nat} {k : Nat} (hk : k < M.length) : M.getD k 0 ∈ M := by
  rw [List.getD_eq_getElem?_getD, List.getElem?_eq_getElem hk]
  exact List.getElem_mem hk
theorem good_len : ∀ {n : Nat} {M : List Nat}, GoodL n M → M.length ≤ n := by
  intro n
  induction n with
  | zero =>
    intro M h
    cases M with
    | nil => simp
    | cons m M => have := h.2 m (by simp); omega
  | succ n ih =>
    intro M h
    rcases List.eq_nil_or_concat M with rfl | ⟨L, m, rfl⟩
    · simp
    · rw [List.concat_eq_append] at h ⊢
      have h1 := h.1
      rw [List.pairwise_append] at h1
      have h2 := h.2 m (by simp)
      have := ih (M := L) ⟨h1.1, fun k hk => by have := h1.2.2 k hk m (by simp); omega⟩
      rw [List.length_append, List.length_singleton]
      omega
theorem Rnd.sub_good {r : Rnd} (hv : r.valid = true) {M : List Nat} (h : GoodL r.n M) : (r.sub M.length (fun k => r.t (M.getD k 0))).valid = true :=
  Rnd.valid_sub hv (Nat.le_trans (good_len h) (Rnd.valid_head hv).2.2.2) fun _ hk => ⟨_, h.2 _ (getD_mem hk), rfl⟩
theorem bad_tab {r : Rnd} (hv : r.valid = true) (off : Int) {M : List Nat} (h : GoodL r.n M) {x : Nat} (hx : x < 2 ^ r.n) (hm : mem2 x = M) : badL r off M = !okT (r.tab off x) := by
  have h1 := Rnd.D_ok (Rnd.sub_good hv h) off
  have h2 := Rnd.tab_ok hv hx (off := off)
  have h3 : (∃ y, (r.sub M.length (fun k => r.t (M.getD k 0))).CA off y) ↔ ∃ y, r.C off (fun k => k ∈ mem2 x) y := by
    rw [hm]
    constructor
    · rintro ⟨y, hy⟩
      refine ⟨y, hy.1, fun k hk hkM => ?_⟩
      obtain ⟨i, hi, e⟩ := List.mem_iff_getElem.1 hkM
      have h9 := hy.2 i hi trivial
      have e2 : M.getD i 0 = k := by rw [List.getD_eq_getElem?_getD, List.getElem?_eq_getElem hi, Option.getD_some, e]
      change (r.t (M.getD i 0)).C y at h9
      rw [e2] at h9
      exact h9
    · rintro ⟨y, hy⟩
      refine ⟨y, hy.1, fun k hk _ => ?_⟩
      exact hy.2 _ (h.2 _ (getD_mem hk)) (getD_mem hk)
  have h4 : FitsW r off M.length (fun k => r.t (M.getD k 0)) = okT (r.tab off x) := Bool.eq_iff_iff.2 (h1.trans (h3.trans h2.symm))
  unfold badL
  rw [h4]
/-- the order of lists -/
def lexLe : List Nat → List Nat → Prop
  | [], _ => True
  | _ :: _, [] => False
  | a :: A, b :: B => a < b ∨ (a = b ∧ lexLe A B)
theorem lexLe_refl : ∀ A, lexLe A A
  | [] => trivial
  | _ :: A => .inr ⟨rfl, lexLe_refl A⟩
theorem lexLe_pre (P : List Nat) {A B : List Nat} (h : lexLe A B) : lexLe (P ++ A) (P ++ B) := by
  induction P with
  | nil => exact h
  | cons p P ih => exact .inr ⟨rfl, ih⟩
theorem lex_parts : ∀ {A B : List Nat}, lexLe A B → A.length = B.length → A = B ∨ ∃ P a A' b B', A = P ++ a :: A' ∧ B = P ++ b :: B' ∧ a < b
  | [], [], _, _ => .inl rfl
  | [], b :: B, _, h => by simp at h
  | a :: A, [], h, _ => h.elim
  | a :: A, b :: B, h, hl => by
    rcases h with h | ⟨rfl, h⟩
    · exact .inr ⟨[], a, A, b, B, rfl, rfl, h⟩
    · rcases lex_parts h (by simpa using hl) with rfl | ⟨P, c, A', d, B', rfl, rfl, hcd⟩
      · exact .inl rfl
      · exact .inr ⟨a :: P, c, A', d, B', rfl, rfl, hcd⟩
theorem lex_before {n : Nat} (hn : n ≤ 14) {A B : List Nat} (hA : GoodL n A) (hB : GoodL n B) (h : lexLe A B) (hl : A.length = B.length) (hne : A ≠ B) : beforeB (setL A) (setL B) = true := by
  have h2 : 2 ^ n ≤ 2 ^ 14 := Nat.pow_le_pow_right (by omega) hn
  have h3 : (2 : Nat) ^ 14 = 16384 := rfl
  have hla := setL_lt hA.2
  have hlb := setL_lt hB.2
  rw [before_iff (by omega) (by omega)]
  rcases lex_parts h hl with e | ⟨P, a, A', b, B', rfl, rfl, hab⟩
  · exact absurd e hne
  · have pA := hA.1
    have pB := hB.1
    rw [List.pairwise_append, List.pairwise_cons] at pA pB
    refine ⟨a, ?_, ?_, fun j hj => ?_⟩
    · rw [setL_bit]; simp
    · rw [setL_bit]
      simp only [List.mem_append, List.mem_cons, decide_eq_false_iff_not]
      rintro (h9 | h9 | h9)
      · have := pA.2.2 a h9 a (by simp); omega
      · omega
      · have := pB.2.1.1 a h9; omega
    · rw [setL_bit, setL_bit]
      have e : j ∈ P ++ a :: A' ↔ j ∈ P ++ b :: B' := by
        simp only [List.mem_append, List.mem_cons]
        constructor
        · rintro (h9 | h9 | h9)
          · exact .inl h9
          · omega
          · have := pA.2.1.1 j h9; omega
        · rintro (h9 | h9 | h9)
          · exact .inl h9
          · omega
          · have := pB.2.1.1 j h9; omega
      simp only [e]
/-- what the document's choose answers: how many more, behind which ones -/
def ChI (r : Rnd) (off : Int) (k : Nat) (L : List Nat) : Option (List Nat) → Prop
  | none => ∀ E, E.length = k → GoodL r.n (L ++ E) → badL r off (L ++ E) = false
  | some M => ∃ E, M = L ++ E ∧ E.length = k ∧ GoodL r.n M ∧ badL r off M = true ∧ ∀ E', E'.length = k → GoodL r.n (L ++ E') → badL r off (L ++ E') = true → lexLe E E'
/-- no set that begins so and goes on with less than i -/
def ChN (r : Rnd) (off : Int) (k : Nat) (L : List Nat) (i : Nat) : Prop := ∀ j E, j < i → E.length = k → GoodL r.n (L ++ j :: E) → badL r off (L ++ j :: E) = false
theorem ChI.leaf_bad {r : Rnd} {off : Int} {L : List Nat} (h : GoodL r.n L) (hb : badL r off L = true) : ChI r off 0 L (some L) :=
  ⟨[], (List.append_nil L).symm, rfl, h, hb, fun _ _ _ _ => True.intro⟩
theorem ChI.leaf_fine {r : Rnd} {off : Int} {L : List Nat} (hb : badL r off L = false) : ChI r off 0 L Option.none := fun E hE _ => by
  obtain rfl : E = [] := List.eq_nil_of_length_eq_zero hE
  rw [List.append_nil]
  exact hb
theorem ChN.next {r : Rnd} {off : Int} {k : Nat} {L : List Nat} {i : Nat} (h : ChN r off k L i) (h2 : ChI r off k (L ++ [i]) none) : ChN r off k L (i + 1) := fun j E hj hE hg => by
  by_cases h9 : j = i
  · subst h9
    have := h2 E hE (by rw [List.append_assoc]; exact hg)
    rw [List.append_assoc] at this
    exact this
  · exact h j E (by omega) hE hg
theorem ChN.found {r : Rnd} {off : Int} {k : Nat} {L M : List Nat} {i : Nat} (h : ChN r off k L i) (h2 : ChI r off k (L ++ [i]) (some M)) : ChI r off (k + 1) L (some M) := by
  obtain ⟨E, rfl, hl, hg, hb, hmin⟩ := h2
  refine ⟨i :: E, List.append_assoc L [i] E, congrArg Nat.succ hl, hg, hb, fun E' hE' hg' hb' => ?_⟩
  cases E' with
  | nil => cases hE'
  | cons j E' =>
    by_cases h1 : j < i
    · rw [h j E' h1 (Nat.succ.inj hE') hg'] at hb'
      cases hb'
    · by_cases h9 : i < j
      · exact .inl h9
      · obtain rfl : j = i := by omega
        refine .inr ⟨rfl, hmin E' (Nat.succ.inj hE') ?_ ?_⟩
        · rw [List.append_assoc]; exact hg'
        · rw [List.append_assoc]; exact hb'
theorem ChN.none {r : Rnd} {off : Int} {k : Nat} {L : List Nat} {i : Nat} (h : ChN r off k L i) (hi : r.n ≤ i) : ChI r off (k + 1) L Option.none := fun E hE hg => by
  cases E with
  | nil => cases hE
  | cons j E =>
    exact h j E (by have := hg.2 j (by simp); omega) (Nat.succ.inj hE) hg
/-- where the next one begins -/
def nextL (L : List Nat) : Nat := match L.getLast? with
  | Option.none => 0
  | some m => m + 1
theorem ChN.start {r : Rnd} {off : Int} {k : Nat} {L : List Nat} : ChN r off k L (nextL L) := fun j E hj hE hg => by
  unfold nextL at hj
  split at hj
  · omega
  · rename_i m hm
    have hmem := List.mem_of_getLast? hm
    have h1 := hg.1
    rw [List.pairwise_append] at h1
    have := h1.2.2 m hmem j (by simp)
    omega
theorem good_snoc {n : Nat} {L : List Nat} (h : GoodL n L) {i : Nat} (hi : i < n) (hl : nextL L ≤ i) : GoodL n (L ++ [i]) := by
  refine ⟨?_, fun m hm => ?_⟩
  · rw [List.pairwise_append]
    refine ⟨h.1, by simp, fun a ha b hb => ?_⟩
    rw [List.mem_singleton] at hb
    subst hb
    rcases List.eq_nil_or_concat L with rfl | ⟨L', m, rfl⟩
    · cases ha
    · rw [List.concat_eq_append] at h hl ha
      have h1 := h.1
      rw [List.pairwise_append] at h1
      have e : nextL (L' ++ [m]) = m + 1 := by simp [nextL]
      rw [e] at hl
      rcases List.mem_append.1 ha with h2 | h2
      · have := h1.2.2 a h2 m (by simp); omega
      · rw [List.mem_singleton] at h2; omega
  · rcases List.mem_append.1 hm with h1 | h1
    · exact h.2 m h1
    · rw [List.mem_singleton] at h1; omega
/-- what the document's Clash finds -/
def DCl (r : Rnd) (off : Int) (M : List Nat) : Prop := GoodL r.n M ∧ badL r off M = true ∧ (∀ M', GoodL r.n M' → 1 ≤ M'.length → M'.length < M.length → badL r off M' = false) ∧ ∀ M', GoodL r.n M' → M'.length = M.length → badL r off M' = true → lexLe M M'
theorem empty_fine {r : Rnd} (hv : r.valid = true) (off : Int) : badL r off [] = false := by
  have h2 : (0 : Nat) < 2 ^ r.n := Nat.two_pow_pos _
  have h1 := bad_tab hv off (M := []) ⟨List.Pairwise.nil, fun m hm => by cases hm⟩ h2 mem2_zero
  rw [h1, (Rnd.tab_ok hv h2).2 ⟨fun _ => 0, fun b hb hne => ?_, fun k hk h9 => ?_⟩]
  · rfl
  · have := (Rnd.valid_head hv).2.2.1.1
    show (0 : Int) - 0 ≤ _ ∧ (0 : Int) - 0 ≤ _
    omega
  · rw [mem2_zero] at h9; cases h9
theorem clash_same {r : Rnd} (hv : r.valid = true) {off : Int} {best : Nat} (hB : ClB r off best) {M : List Nat} (hM : DCl r off M) : M = mem2 best := by
  have hn := (Rnd.valid_head hv).2.2.2
  have h2 : 2 ^ r.n ≤ 2 ^ 14 := Nat.pow_le_pow_right (by omega) hn
  have h3 : (2 : Nat) ^ 14 = 16384 := rfl
  obtain ⟨hb1, hb2, hb3⟩ := hB
  obtain ⟨hg, hbad, hsm, hlex⟩ := hM
  have hgb := good_mem2 hb1 hn
  have hbb : badL r off (mem2 best) = true := by rw [bad_tab hv off hgb hb1 rfl, hb2]; rfl
  have hls := setL_lt hg.2
  have hms := mem2_setL hg hn
  have hok : okT (r.tab off (setL M)) = false := by
    have h9 := bad_tab hv off hg hls hms
    rw [hbad] at h9
    simpa using h9.symm
  have hz1 := mem2_len best (by omega)
  have hz2 := mem2_len (setL M) (by omega)
  rw [hms] at hz2
  have h1 : (mem2 best).length = M.length := by
    rcases hb3 _ hls hok with h9 | ⟨h9, -⟩
    · by_cases h0 : (mem2 best).length = 0
      · have e : mem2 best = [] := List.eq_nil_of_length_eq_zero h0
        rw [e, empty_fine hv] at hbb
        cases hbb
      · have := hsm _ hgb (by omega) (by omega)
        rw [this] at hbb
        cases hbb
    · omega
  have h4 := hlex _ hgb h1 hbb
  false_or_by_contra
  rename_i hne
  have h5 := lex_before hn hg hgb h4 h1.symm hne
  have e2 : setL (mem2 best) = best := by
    apply Nat.eq_of_testBit_eq
    intro i
    rw [setL_bit]
    have := mem2_iff (k := i) best (by omega)
    cases h8 : best.testBit i
    · rw [h8] at this; simpa using this
    · rw [h8] at this; simpa using this
  rw [e2] at h5
  rcases hb3 _ hls hok with h9 | ⟨-, h9⟩
  · omega
  · rw [h9] at h5; cases h5
/-- the document finds none just where the program does -/
theorem clash_none {r : Rnd} (hv : r.valid = true) {off : Int} (h : ∀ M, GoodL r.n M → 1 ≤ M.length → badL r off M = false) {x : Nat} (hx : x < 2 ^ r.n) : okT (r.tab off x) = true := by
  have hn := (Rnd.valid_head hv).2.2.2
  have hg := good_mem2 hx hn
  have h1 := bad_tab hv off hg hx rfl
  have h2 : badL r off (mem2 x) = false := by
    by_cases h0 : (mem2 x).length = 0
    · rw [List.eq_nil_of_length_eq_zero h0, empty_fine hv]
    · exact h _ hg (by omega)
  rw [h2] at h1
  simpa using h1.symm
end Go.Proofs.YtldodmfmibeoiaaDoor
