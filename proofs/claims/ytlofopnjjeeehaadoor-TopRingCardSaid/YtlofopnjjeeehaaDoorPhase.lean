/- A drawn region that reads a box, and writes it at its end: operations that the first store waits for may be taken first, with what is so ahead of it. Laws that name no program. -/
import Derived.Test.YtlofopnjjeeehaaDoorBase2
namespace Go.Proofs.YtlofopnjjeeehaaDoor
open Go.RowKit
section
variable {P : Program} {ops : Array Oper} {Q : Exit → Act → World → Prop} {md : Region.Mode} {C : Array Bool → World → Prop} {D : World → Prop}
/-- as wpAnyG, with a class that hangs on what has come up -/
def wpAnyP (P : Program) (md : Region.Mode) (ops : Array Oper) (C : Array Bool → World → Prop) (Q : Exit → Act → World → Prop) : Nat → Array Bool → Act → World → Prop
  | 0, listed, a, w => Region.ready md ops listed = [] ∧ ∀ w', Below w.heap.size w w' → Q .normal a w'
  | fuel + 1, listed, a, w => ∀ w', Below w.heap.size w w' →
    (Region.ready md ops listed = [] → Q .normal a w') ∧
    ∀ i ∈ Region.ready md ops listed, wpOp P ops Q i (fun a' w'' => C (listed.setIfInBounds i true) w'' ∧ wpAnyP P md ops C Q fuel (listed.setIfInBounds i true) a' w'') a w'
theorem wpAnyP_garb {w w' : World} (hb : Below w.heap.size w w') : ∀ {n : Nat} {listed : Array Bool} {a : Act}, wpAnyP P md ops C Q n listed a w → wpAnyP P md ops C Q n listed a w'
  | 0, _, _, h => ⟨h.1, fun w2 h2 => h.2 w2 (hb.trans (h2.mono hb.size))⟩
  | _ + 1, _, _, h => fun w2 h2 => h w2 (hb.trans (h2.mono hb.size))
theorem wpAnyP_sound : ∀ {n : Nat} {listed : Array Bool} {a : Act} {w : World}, wpAnyP P md ops C Q n listed a w → wpAny P md ops Q n listed a w
  | 0, _, _, w, h => ⟨h.1, h.2 w (Below.refl _ _)⟩
  | _ + 1, _, _, w, h => ⟨(h w (Below.refl _ _)).1, fun i hi => wpOp_mono (fun _ _ h9 => wpAnyP_sound h9.2) ((h w (Below.refl _ _)).2 i hi)⟩
theorem wpAnyP_first {i : Nat} {oi : Oper} (Inv : Array Bool → Prop) (hC : ∀ L w w', C L w → Below w.heap.size w w' → C L w') (hup : ∀ (L : Array Bool) w, C L w → C (L.setIfInBounds i true) w) (hdn : ∀ (L : Array Bool) j w, C ((L.setIfInBounds i true).setIfInBounds j true) w → C (L.setIfInBounds j true) w)
    (hD : ∀ L w, Inv L → C L w → D w) (hInv : ∀ (L : Array Bool) j oj, Inv L → ops[j]? = some oj → j ≠ i → (∀ e ∈ oj.after, Region.binds md e = true → e.on ≠ i) → Inv (L.setIfInBounds j true))
    (hi : ops[i]? = some oi) (hsel : ∀ (j : Nat) (o : Oper) cs b, ops[j]? = some o → o.op ≠ .select cs b)
    (hQ : ∀ c a v w, Q (.panic c) (a.put oi.dst v) w → Q (.panic c) a w) :
    ∀ (fuel : Nat) (listed : Array Bool) (a aN : Act) (w : World), Inv listed → C listed w →
      (∀ j oj, ops[j]? = some oj → j ≠ i → listed.getD j true = false → (∀ e ∈ oj.after, Region.binds md e = true → e.on ≠ i) → oi.apart ops oj = true) →
      i ∈ Region.ready md ops listed → YG P ops D oi a aN →
      wpAnyP P md ops C Q fuel (listed.setIfInBounds i true) aN w → wpAnyP P md ops C Q (fuel + 1) listed a w := by
  intro fuel
  induction fuel with
  | zero =>
    intro listed a aN w hin hw _ hr hy H w' hb
    refine ⟨fun h => (by rw [h] at hr; cases hr), fun j hj => ?_⟩
    by_cases hji : j = i
    · subst hji; exact hy.wpOp hi (hD _ _ hin (hC _ _ _ hw hb)) fun w2 h2 => ⟨hup _ _ (hC _ _ _ (hC _ _ _ hw hb) h2), wpAnyP_garb (hb.trans (h2.mono hb.size)) H⟩
    · have := ready_mono hj hji
      rw [H.1] at this
      cases this
  | succ fuel ih =>
    intro listed a aN w hin hw hfree hr hy H w' hb
    refine ⟨fun h => (by rw [h] at hr; cases hr), fun j hj => ?_⟩
    have hw' := hC _ _ _ hw hb
    by_cases hji : j = i
    · subst hji; exact hy.wpOp hi (hD _ _ hin hw') fun w2 h2 => ⟨hup _ _ (hC _ _ _ hw' h2), wpAnyP_garb (hb.trans (h2.mono hb.size)) H⟩
    · obtain ⟨v, hv⟩ := hy.form (hD _ _ hin hw')
      subst hv
      have h1 := (H w' hb).2 j (ready_mono hj hji)
      obtain ⟨hjun, oj, hoj, hall⟩ := mem_ready.1 hj
      have hnot : ∀ e ∈ oj.after, Region.binds md e = true → e.on ≠ i := fun e he hb heq => by
        have h1 := hall e he hb
        have h0 := (mem_ready.1 hr).1
        rw [heq] at h1
        rcases Nat.lt_or_ge i listed.size with h' | h'
        · simp [h'] at h0 h1; rw [h0] at h1; cases h1
        · simp [Array.getElem?_eq_none h'] at h1
      have h2 := wpOp_putG hoj (hfree j oj hoj hji hjun hnot) (fun cs b => hsel i oi cs b hi) (fun cs b => hsel j oj cs b hoj) (fun c a w => hQ c a v w) hy h1
      have hfree' : ∀ k ok, ops[k]? = some ok → k ≠ i → (listed.setIfInBounds j true).getD k true = false →
          (∀ e ∈ ok.after, Region.binds md e = true → e.on ≠ i) → oi.apart ops ok = true := fun k ok hk hki hun hno => by
        refine hfree k ok hk hki ?_ hno
        by_cases hjk : j = k
        · subst hjk; exact hjun
        · rw [getD_set_ne true hjk] at hun; exact hun
      have hinj := hInv listed j oj hin hoj hji hnot
      refine wpOp_mono (fun a' w2 h3 => ⟨hdn _ _ _ h3.2.1, ih (listed.setIfInBounds j true) a' _ w2 hinj (hdn _ _ _ h3.2.1) hfree' (ready_mono hr (Ne.symm hji)) h3.1 ?_⟩) h2
      rw [Array.setIfInBounds_comm _ _ hji]
      exact h3.2.2
/-- two phases: ahead of the operation st, and behind it -/
def Ph (st : Nat) (C0 C1 : World → Prop) (L : Array Bool) (w : World) : Prop := if L.getD st false then C1 w else C0 w
theorem getD_set_same_ne {L : Array Bool} {i st : Nat} (h : i ≠ st) : (L.setIfInBounds i true).getD st false = L.getD st false := getD_set_ne false h
variable {C0 C1 : World → Prop} {st : Nat}
theorem Ph.on (h0 : ∀ w w', C0 w → Below w.heap.size w w' → C0 w') (h1 : ∀ w w', C1 w → Below w.heap.size w w' → C1 w') : ∀ L w w', Ph st C0 C1 L w → Below w.heap.size w w' → Ph st C0 C1 L w' := fun L w w' h hb => by
  unfold Ph at *
  split at h
  · rename_i h9; rw [if_pos h9]; exact h1 _ _ h hb
  · rename_i h9; rw [if_neg h9]; exact h0 _ _ h hb
theorem Ph.up {i : Nat} (hne : i ≠ st) : ∀ (L : Array Bool) w, Ph st C0 C1 L w → Ph st C0 C1 (L.setIfInBounds i true) w := fun L w h => by
  unfold Ph at *; rw [getD_set_same_ne hne]; exact h
theorem Ph.dn {i : Nat} (hne : i ≠ st) : ∀ (L : Array Bool) j w, Ph st C0 C1 ((L.setIfInBounds i true).setIfInBounds j true) w → Ph st C0 C1 (L.setIfInBounds j true) w := fun L j w h => by
  by_cases hij : i = j
  · subst hij
    rw [Array.setIfInBounds_setIfInBounds] at h; exact h
  · rw [Array.setIfInBounds_comm _ _ hij] at h
    unfold Ph at *; rw [getD_set_same_ne hne] at h; exact h
/-- number i, for which the first store waits, is taken first: what is so ahead of the store may be used -/
theorem wpAnyP_take0 {l r r' : List Oper} {i : Nat} {oi os : Oper} {fuel : Nat} {listed : Array Bool} {a : Act} {w : World} (h0 : ∀ w w', C0 w → Below w.heap.size w w' → C0 w') (h1 : ∀ w w', C1 w → Below w.heap.size w w' → C1 w') (hw : C0 w) (hne : i ≠ st) (hun : listed.getD st false = false)
    (hst : l.drop st = os :: r') (hbind : os.after.any (fun e => Region.binds md e && decide (e.on = i)) = true) (hi : l.drop i = oi :: r)
    (hs : Region.noSelect l.toArray = true) (hf : Region.free md l.toArray listed i = true) (hr : (Region.ready md l.toArray listed).contains i = true)
    (hQ : ∀ c a v w, Q (.panic c) (a.put oi.dst v) w → Q (.panic c) a w) (hwa : Region.wanted oi (yielded l.toArray a.tmps) = true)
    (h : ∃ aN, (∀ w1, C0 w1 → ∀ K : Act → Prop, K aN → oi.quiet P a (fun w' => ∃ W : Aft w1, w' = W.val) K) ∧ wpAnyP P md l.toArray (Ph st C0 C1) Q fuel (listed.setIfInBounds i true) aN w) : wpAnyP P md l.toArray (Ph st C0 C1) Q (fuel + 1) listed a w :=
  let ⟨aN, hy, h⟩ := h
  wpAnyP_first (D := C0) (fun L => L.getD st false = false) (Ph.on h0 h1) (Ph.up hne) (Ph.dn hne) (fun L w hL hC => by unfold Ph at hC; rw [if_neg (by rw [hL]; simp)] at hC; exact hC)
    (fun L j oj hL hj _ hno => by
      have hjst : j ≠ st := fun e => by
        subst e
        rw [drop_get hst] at hj
        cases hj
        obtain ⟨e, he, hb⟩ := Array.any_eq_true'.1 hbind
        simp only [Bool.and_eq_true, decide_eq_true_eq] at hb
        exact hno e he hb.1 hb.2
      rw [getD_set_same_ne hjst]; exact hL)
    (drop_get hi) (Region.noSelect_spec hs) hQ fuel listed a aN w hun (by unfold Ph; rw [if_neg (by rw [hun]; simp)]; exact hw) (Region.free_spec (drop_get hi) hf) (by simpa using hr)
    (.inl ⟨hwa, fun w1 h1 => by
      obtain ⟨v, h2, h3⟩ := hy w1 h1 (fun a' => a' = aN) rfl
      exact ⟨v, h2 w1 ⟨⟨w1, Below.refl _ _⟩, rfl⟩, h3⟩⟩) h
/-- any other number is taken first, with what is so in both phases -/
theorem wpAnyP_take1 {l r : List Oper} {i : Nat} {oi : Oper} {fuel : Nat} {listed : Array Bool} {a : Act} {w : World} (h0 : ∀ w w', C0 w → Below w.heap.size w w' → C0 w') (h1 : ∀ w w', C1 w → Below w.heap.size w w' → C1 w') (h01 : ∀ w, C0 w → C1 w) (hw : Ph st C0 C1 listed w) (hne : i ≠ st) (hi : l.drop i = oi :: r)
    (hs : Region.noSelect l.toArray = true) (hf : Region.free md l.toArray listed i = true) (hr : (Region.ready md l.toArray listed).contains i = true)
    (hQ : ∀ c a v w, Q (.panic c) (a.put oi.dst v) w → Q (.panic c) a w) (hwa : Region.wanted oi (yielded l.toArray a.tmps) = true)
    (h : ∃ aN, (∀ w1, C1 w1 → ∀ K : Act → Prop, K aN → oi.quiet P a (fun w' => ∃ W : Aft w1, w' = W.val) K) ∧ wpAnyP P md l.toArray (Ph st C0 C1) Q fuel (listed.setIfInBounds i true) aN w) : wpAnyP P md l.toArray (Ph st C0 C1) Q (fuel + 1) listed a w :=
  let ⟨aN, hy, h⟩ := h
  wpAnyP_first (D := C1) (fun _ => True) (Ph.on h0 h1) (Ph.up hne) (Ph.dn hne) (fun L w _ hC => by unfold Ph at hC; split at hC; exact hC; exact h01 _ hC) (fun _ _ _ _ _ _ _ => trivial)
    (drop_get hi) (Region.noSelect_spec hs) hQ fuel listed a aN w trivial hw (Region.free_spec (drop_get hi) hf) (by simpa using hr)
    (.inl ⟨hwa, fun w1 h1 => by
      obtain ⟨v, h2, h3⟩ := hy w1 h1 (fun a' => a' = aN) rfl
      exact ⟨v, h2 w1 ⟨⟨w1, Below.refl _ _⟩, rfl⟩, h3⟩⟩) h
/-- the one that may come up is carried out -/
theorem wpAnyP_one {l r : List Oper} {i : Nat} {oi : Oper} {fuel : Nat} {listed : Array Bool} {a : Act} {w : World} (hr : Region.ready md l.toArray listed = [i]) (hi : l.drop i = oi :: r) (hwa : Region.wanted oi (yielded l.toArray a.tmps) = true)
    (h : ∀ w', Below w.heap.size w w' → ∀ K : Act → World → Prop, (∀ a' w'', C (listed.setIfInBounds i true) w'' → wpAnyP P md l.toArray C Q fuel (listed.setIfInBounds i true) a' w'' → K a' w'') → oi.wp P a w' K Q) : wpAnyP P md l.toArray C Q (fuel + 1) listed a w := fun w' hb =>
  ⟨fun h0 => (by rw [hr] at h0; cases h0), fun j hj => by
    rw [hr] at hj
    obtain rfl : j = i := by simpa using hj
    unfold wpOp
    simp only [drop_get hi, hwa, if_true]
    exact .inl (h w' hb _ fun _ _ p q => ⟨p, q⟩)⟩
theorem wpAnyP_two {l r r' : List Oper} {i k : Nat} {oi ok : Oper} {fuel : Nat} {listed : Array Bool} {a : Act} {w : World} (hr : Region.ready md l.toArray listed = [i, k]) (hi : l.drop i = oi :: r) (hk : l.drop k = ok :: r') (hwi : Region.wanted oi (yielded l.toArray a.tmps) = true) (hwk : Region.wanted ok (yielded l.toArray a.tmps) = true)
    (h1 : ∀ w', Below w.heap.size w w' → ∀ K : Act → World → Prop, (∀ a' w'', C (listed.setIfInBounds i true) w'' → wpAnyP P md l.toArray C Q fuel (listed.setIfInBounds i true) a' w'' → K a' w'') → oi.wp P a w' K Q)
    (h2 : ∀ w', Below w.heap.size w w' → ∀ K : Act → World → Prop, (∀ a' w'', C (listed.setIfInBounds k true) w'' → wpAnyP P md l.toArray C Q fuel (listed.setIfInBounds k true) a' w'' → K a' w'') → ok.wp P a w' K Q) : wpAnyP P md l.toArray C Q (fuel + 1) listed a w := fun w' hb =>
  ⟨fun h0 => (by rw [hr] at h0; cases h0), fun j hj => by
    rw [hr] at hj
    rcases List.mem_cons.1 hj with rfl | hj
    · unfold wpOp
      simp only [drop_get hi, hwi, if_true]
      exact .inl (h1 w' hb _ fun _ _ p q => ⟨p, q⟩)
    · obtain rfl : j = k := by simpa using hj
      unfold wpOp
      simp only [drop_get hk, hwk, if_true]
      exact .inl (h2 w' hb _ fun _ _ p q => ⟨p, q⟩)⟩
theorem wpAnyP_done {listed : Array Bool} {a : Act} {w : World} (hr : Region.ready md ops listed = []) (h : ∀ w', Below w.heap.size w w' → Q .normal a w') : ∀ fuel, wpAnyP P md ops C Q fuel listed a w
  | 0 => ⟨hr, h⟩
  | _ + 1 => fun w' hb => ⟨fun _ => h w' hb, by rw [hr]; simp⟩
theorem wp_region_phase {id : Nat} {a : Act} {w : World} {l : List Oper} (st : Nat) (C0 C1 : World → Prop) (hm : P.follows .mixedOrders = true)
    (h : wpAnyP P .any l.toArray (Ph st C0 C1) Q l.length (Array.replicate l.length false) a w.drew) : (Code.region id l.toArray true).wp P Q a w :=
  wp_region_any hm (by simpa using wpAnyP_sound h)
end
end Go.Proofs.YtlofopnjjeeehaaDoor
