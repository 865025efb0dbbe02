/- A region that draws its order, whose calls make memory but change nothing old, is walked once. A region that draws its order: an operation that yields one value in every world of a class, and changes nothing that exists, may be taken first; what stands behind bears such changes. -/
import Derived.WalkKit
import Derived.BigQuiet
import Derived.Test.YtlofopnjjeeehaaDoorBnA
import Derived.OrdersHeld
namespace Go.Proofs.YtlofopnjjeeehaaDoor.Bn
open Go.RowKit
/-- the worlds behind w in which nothing old has changed -/
structure Aft (w : World) : Type where
  val : World
  below : Below w.heap.size w val
instance aftNonempty (w : World) : Nonempty (Aft w) := ⟨⟨w, Below.refl _ _⟩⟩
section
variable {P : Program}
theorem wp_region_aft {id : Nat} {Q : Exit → Act → World → Prop} {a : Act} {w : World} {l : List Oper} (hm : P.follows .mixedOrders = true) (hB : Region.lexB .any l.toArray = true)
    (h : wpQuiet P l.toArray (fun w' => ∃ W : Aft w, w' = W.val) (fun a' => ∀ W : Aft w, Q .normal a' W.val) l a) : (Code.region id l.toArray true).wp P Q a w := by
  refine wp_region_quiet (C := fun w' => ∃ W : Aft w, w' = W.val) hm hB ⟨⟨w.drew, (Below.refl _ _).drew⟩, rfl⟩ ?_
  have e : (fun a' => ∀ w', (∃ W : Aft w, w' = W.val) → Q .normal a' w') = fun a' => ∀ W : Aft w, Q .normal a' W.val := by
    funext a'
    exact propext ⟨fun h W => h _ ⟨W, rfl⟩, fun h w' ⟨W, e⟩ => e ▸ h W⟩
  rw [e]
  simpa using h
theorem aft_call {f : FuncId} {args : Array Value} {w : World} {W : Aft w} {v : Value} (h : Calls P f args W.val fun e w' => e = .returned v ∧ Below W.val.heap.size W.val w') :
    Calls P f args W.val fun e w'' => e = .returned v ∧ ∃ W' : Aft w, w'' = W'.val :=
  h.mono fun _ w' h => ⟨h.1, ⟨⟨w', W.below.trans (h.2.mono W.below.size)⟩, rfl⟩⟩
end
end Go.Proofs.YtlofopnjjeeehaaDoor.Bn
namespace Go.Proofs.YtlofopnjjeeehaaDoor.Bn
open Go.RowKit
section
variable {P : Program} {ops : Array Oper} {Q : Exit → Act → World → Prop} {md : Region.Mode} {C : World → Prop}
/-- the worlds behind w1 in which nothing that existed has changed -/
def Succ (w1 : World) (w' : World) : Prop := ∃ W : Aft w1, w' = W.val
/-- in state a, in every world of the class, the operation leads to the frame aN and changes nothing that exists -/
def YG (P : Program) (ops : Array Oper) (C : World → Prop) (o : Oper) (a aN : Act) : Prop :=
  (Region.wanted o (yielded ops a.tmps) = true ∧ ∀ w1, C w1 → ∃ v, o.quietAt P a (Succ w1) w1 v ∧ a.put o.dst v = aN) ∨
  (Region.wanted o (yielded ops a.tmps) = false ∧ a.put o.dst undef = aN)
theorem YG.form {o : Oper} {a aN : Act} (h : YG P ops C o a aN) {w : World} (hw : C w) : ∃ v, a.put o.dst v = aN := by
  rcases h with ⟨-, h⟩ | ⟨-, h⟩
  · obtain ⟨v, -, hv⟩ := h w hw; exact ⟨v, hv⟩
  · exact ⟨_, h⟩
theorem YG.put {o oj : Oper} {a : Act} {v u : Value} (h : YG P ops C o a (a.put o.dst v)) (hs : ∀ cs b, o.op ≠ .select cs b)
    (h2 : ∀ d, o.dst = some d → oj.dst ≠ some d) (h3 : ∀ d, oj.dst = some d → d ∉ o.looksAt ops) : YG P ops C o (a.put oj.dst u) ((a.put oj.dst u).put o.dst v) := by
  have e1 := execOp_put o hs a oj.dst u h3
  have e2 := wanted_put o a oj.dst u h3
  have cm : ∀ x, (a.put oj.dst u).put o.dst x = (a.put o.dst x).put oj.dst u := fun x => (Act.put_comm a x u h2).symm
  unfold YG Oper.quietAt at *
  rw [e1, e2]
  rcases h with ⟨hw, h⟩ | ⟨hw, h⟩
  · exact .inl ⟨hw, fun w1 h1 => (h w1 h1).imp fun x hx => ⟨hx.1, by rw [cm, cm, hx.2]⟩⟩
  · exact .inr ⟨hw, by rw [cm, cm, h]⟩
theorem put_defers' (a : Act) (x : Option Tmp) (v : Value) (D : List Deferred) : ({ a with defers := D } : Act).put x v = { a.put x v with defers := D } := by cases x <;> rfl
theorem YG.defers {o : Oper} {a : Act} {v : Value} (h : YG P ops C o a (a.put o.dst v)) (D : List Deferred) : YG P ops C o { a with defers := D } (({ a with defers := D } : Act).put o.dst v) := by
  unfold YG Oper.quietAt at *
  simp only [put_defers']
  rcases h with ⟨hw, h⟩ | ⟨hw, h⟩
  · exact .inl ⟨hw, fun w1 h1 => (h w1 h1).imp fun x hx => ⟨hx.1, by rw [hx.2]⟩⟩
  · exact .inr ⟨hw, by rw [h]⟩
theorem wpOp_putG {j : Nat} {oi oj : Oper} {v : Value} (hj : ops[j]? = some oj) (hap : oi.apart ops oj = true)
    (hsi : ∀ cs b, oi.op ≠ .select cs b) (hsj : ∀ cs b, oj.op ≠ .select cs b)
    (hQ : ∀ c a w, Q (.panic c) (a.put oi.dst v) w → Q (.panic c) a w) {K : Act → World → Prop} {a : Act} {w : World}
    (hy : YG P ops C oi a (a.put oi.dst v)) (h : wpOp P ops Q j K (a.put oi.dst v) w) :
    wpOp P ops Q j (fun a' w' => YG P ops C oi a' (a'.put oi.dst v) ∧ K (a'.put oi.dst v) w') a w := by
  obtain ⟨h1, h2, h3⟩ := Oper.apart_spec hap
  have keep : ∀ (a : Act), YG P ops C oi a (a.put oi.dst v) → ∀ u, YG P ops C oi (a.put oj.dst u) ((a.put oj.dst u).put oi.dst v) := fun a hy u => hy.put hsi h2 h3
  unfold wpOp at *
  simp only [hj] at *
  rw [wanted_put oj a oi.dst v h1] at h
  split
  · rename_i hw
    simp only [hw, if_true] at h
    rcases h with h | ⟨hasks, hlets⟩
    case inr => exact .inr ⟨by unfold Oper.asks at *; rw [execOp_put oj hsj a oi.dst v h1] at hasks; exact hasks, hlets⟩
    refine .inl ?_
    unfold Oper.wp at *
    rw [execOp_put oj hsj a oi.dst v h1] at h
    generalize (execOp a.eval oj).run P w = r at *
    cases r with
    | ok n w' =>
      cases n <;> simp only [Oper.upon] at h ⊢
      case value u => exact ⟨keep a hy u, by rw [← Act.put_comm a v u h2]; exact h⟩
      case skip => exact ⟨keep a hy _, by rw [← Act.put_comm a v undef h2]; exact h⟩
      case defer d =>
        refine ⟨keep _ (hy.defers _) _, ?_⟩
        rw [← Act.put_comm _ v undef h2, ← Act.put_defers]
        exact h
      case enter f args =>
        refine Calls.mono h fun e w'' he => ?_
        cases e with
        | returned u => exact ⟨keep a hy u, by rw [← Act.put_comm a v u h2]; exact he⟩
        | panicked c => exact hQ _ _ _ he
        | outgrown => exact he
      case row row args => exact Rows.mono h fun u w'' he => ⟨keep a hy u, by rw [← Act.put_comm a v u h2]; exact he⟩
    | halt x w' =>
      cases x <;> simp only [Oper.upon] at h ⊢
      case panic u => exact hQ _ _ _ h
  · rename_i hw
    simp only [hw] at h
    exact ⟨keep a hy _, by rw [← Act.put_comm a v undef h2]; exact h⟩
/-- whatever order is picked from here on, and whatever is made besides -/
def wpAnyG (P : Program) (md : Region.Mode) (ops : Array Oper) (C : World → Prop) (Q : Exit → Act → World → Prop) : Nat → Array Bool → Act → World → Prop
  | 0, listed, a, w => Region.ready md ops listed = [] ∧ ∀ w', Below w.heap.size w w' → Q .normal a w'
  | fuel + 1, listed, a, w => ∀ w', Below w.heap.size w w' →
    (Region.ready md ops listed = [] → Q .normal a w') ∧
    ∀ i ∈ Region.ready md ops listed, wpOp P ops Q i (fun a' w'' => C w'' ∧ wpAnyG P md ops C Q fuel (listed.setIfInBounds i true) a' w'') a w'
theorem wpAnyG_garb {w w' : World} (hb : Below w.heap.size w w') : ∀ {n : Nat} {listed : Array Bool} {a : Act}, wpAnyG P md ops C Q n listed a w → wpAnyG P md ops C Q n listed a w'
  | 0, _, _, h => ⟨h.1, fun w2 h2 => h.2 w2 (hb.trans (h2.mono hb.size))⟩
  | _ + 1, _, _, h => fun w2 h2 => h w2 (hb.trans (h2.mono hb.size))
theorem wpAnyG_sound : ∀ {n : Nat} {listed : Array Bool} {a : Act} {w : World}, wpAnyG P md ops C Q n listed a w → wpAny P md ops Q n listed a w
  | 0, _, _, w, h => ⟨h.1, h.2 w (Below.refl _ _)⟩
  | _ + 1, _, _, w, h => ⟨(h w (Below.refl _ _)).1, fun i hi => wpOp_mono (fun _ _ h9 => wpAnyG_sound h9.2) ((h w (Below.refl _ _)).2 i hi)⟩
theorem YG.wpOp {i : Nat} {o : Oper} {a aN : Act} (hi : ops[i]? = some o) (hy : YG P ops C o a aN) {K : Act → World → Prop} {w : World} (hw : C w) (h : ∀ w', Below w.heap.size w w' → K aN w') : wpOp P ops Q i K a w := by
  unfold Go.wpOp
  simp only [hi]
  rcases hy with ⟨hwa, hv⟩ | ⟨hwa, e⟩
  · obtain ⟨v, hq, e⟩ := hv w hw
    simp only [hwa, if_true]
    refine .inl ?_
    unfold Oper.quietAt at hq
    unfold Oper.wp
    generalize (execOp a.eval o).run P w = r at *
    cases r with
    | ok n w' =>
      cases n <;> simp only [Oper.quietUpon] at hq <;> simp only [Oper.upon]
      case value u =>
        obtain ⟨e1, e2⟩ := hq
        rw [e1, e2, e]
        exact h _ (Below.refl _ _)
      case skip =>
        obtain ⟨e1, e2⟩ := hq
        rw [e1, ← e2, e]
        exact h _ (Below.refl _ _)
      case enter f args =>
        obtain ⟨e1, hc⟩ := hq
        rw [e1]
        exact hc.mono fun e9 w'' ⟨he, hw''⟩ => by
          subst he
          obtain ⟨W, rfl⟩ := hw''
          simp only [e]
          exact h _ W.below
    | halt x w' => simp only [Oper.quietUpon] at hq
  · simp only [hwa, Bool.false_eq_true, if_false]; rw [e]; exact h _ (Below.refl _ _)
theorem wpAnyG_first {i : Nat} {oi : Oper} (hC : ∀ w w', C w → Below w.heap.size w w' → C w') (hi : ops[i]? = some oi) (hsel : ∀ (j : Nat) (o : Oper) cs b, ops[j]? = some o → o.op ≠ .select cs b)
    (hQ : ∀ c a v w, Q (.panic c) (a.put oi.dst v) w → Q (.panic c) a w) :
    ∀ (fuel : Nat) (listed : Array Bool) (a aN : Act) (w : World), C w →
      (∀ j oj, ops[j]? = some oj → j ≠ i → listed.getD j true = false → (∀ e ∈ oj.after, Region.binds md e = true → e.on ≠ i) → oi.apart ops oj = true) →
      i ∈ Region.ready md ops listed → YG P ops C oi a aN →
      wpAnyG P md ops C Q fuel (listed.setIfInBounds i true) aN w → wpAnyG P md ops C Q (fuel + 1) listed a w := by
  intro fuel
  induction fuel with
  | zero =>
    intro listed a aN w hw _ hr hy H w' hb
    refine ⟨fun h => (by rw [h] at hr; cases hr), fun j hj => ?_⟩
    by_cases hji : j = i
    · subst hji; exact hy.wpOp hi (hC _ _ hw hb) fun w2 h2 => ⟨hC _ _ (hC _ _ hw hb) h2, wpAnyG_garb (hb.trans (h2.mono hb.size)) H⟩
    · have := ready_mono hj hji
      rw [H.1] at this
      cases this
  | succ fuel ih =>
    intro listed a aN w hw hfree hr hy H w' hb
    refine ⟨fun h => (by rw [h] at hr; cases hr), fun j hj => ?_⟩
    have hw' := hC _ _ hw hb
    by_cases hji : j = i
    · subst hji; exact hy.wpOp hi hw' fun w2 h2 => ⟨hC _ _ hw' h2, wpAnyG_garb (hb.trans (h2.mono hb.size)) H⟩
    · obtain ⟨v, hv⟩ := hy.form hw'
      subst hv
      have h1 := (H w' hb).2 j (ready_mono hj hji)
      obtain ⟨hjun, oj, hoj, hall⟩ := mem_ready.1 hj
      have hnot : ∀ e ∈ oj.after, Region.binds md e = true → e.on ≠ i := fun e he hb heq => by
        have h1 := hall e he hb
        have h0 := (mem_ready.1 hr).1
        rw [heq] at h1
        rcases Nat.lt_or_ge i listed.size with h' | h'
        · simp [h'] at h0 h1; rw [h0] at h1; cases h1
        · simp [Array.getElem?_eq_none h'] at h1
      have h2 := wpOp_putG hoj (hfree j oj hoj hji hjun hnot) (fun cs b => hsel i oi cs b hi) (fun cs b => hsel j oj cs b hoj) (fun c a w => hQ c a v w) hy h1
      have hfree' : ∀ k ok, ops[k]? = some ok → k ≠ i → (listed.setIfInBounds j true).getD k true = false →
          (∀ e ∈ ok.after, Region.binds md e = true → e.on ≠ i) → oi.apart ops ok = true := fun k ok hk hki hun hno => by
        refine hfree k ok hk hki ?_ hno
        by_cases hjk : j = k
        · subst hjk; exact hjun
        · rw [getD_set_ne true hjk] at hun; exact hun
      refine wpOp_mono (fun a' w2 h3 => ⟨h3.2.1, ih (listed.setIfInBounds j true) a' _ w2 h3.2.1 hfree' (ready_mono hr (Ne.symm hji)) h3.1 ?_⟩) h2
      rw [Array.setIfInBounds_comm _ _ hji]
      exact h3.2.2
theorem drop_get {l : List Oper} {i : Nat} {o : Oper} {r : List Oper} (h : l.drop i = o :: r) : l.toArray[i]? = some o := by
  have : l[i]? = some o := by rw [← List.head?_drop, h]; rfl
  simpa using this
/-- number i is taken first -/
theorem wpAnyG_take {l r : List Oper} {i : Nat} {oi : Oper} {fuel : Nat} {listed : Array Bool} {a : Act} {w : World} (hC : ∀ w w', C w → Below w.heap.size w w' → C w') (hw : C w) (hi : l.drop i = oi :: r)
    (hs : Region.noSelect l.toArray = true) (hf : Region.free md l.toArray listed i = true) (hr : (Region.ready md l.toArray listed).contains i = true)
    (hQ : ∀ c a v w, Q (.panic c) (a.put oi.dst v) w → Q (.panic c) a w) (hwa : Region.wanted oi (yielded l.toArray a.tmps) = true)
    (h : ∃ aN, (∀ w1, C w1 → ∀ K : Act → Prop, K aN → oi.quiet P a (fun w' => ∃ W : Aft w1, w' = W.val) K) ∧ wpAnyG P md l.toArray C Q fuel (listed.setIfInBounds i true) aN w) : wpAnyG P md l.toArray C Q (fuel + 1) listed a w :=
  let ⟨aN, hy, h⟩ := h
  wpAnyG_first hC (drop_get hi) (Region.noSelect_spec hs) hQ fuel listed a aN w hw (Region.free_spec (drop_get hi) hf) (by simpa using hr)
    (.inl ⟨hwa, fun w1 h1 => by
      obtain ⟨v, h2, h3⟩ := hy w1 h1 (fun a' => a' = aN) rfl
      exact ⟨v, h2 w1 ⟨⟨w1, Below.refl _ _⟩, rfl⟩, h3⟩⟩) h
/-- number i is passed over -/
theorem wpAnyG_skip {l r : List Oper} {i : Nat} {oi : Oper} {fuel : Nat} {listed : Array Bool} {a : Act} {w : World} (hC : ∀ w w', C w → Below w.heap.size w w' → C w') (hw : C w) (hi : l.drop i = oi :: r)
    (hs : Region.noSelect l.toArray = true) (hf : Region.free md l.toArray listed i = true) (hr : (Region.ready md l.toArray listed).contains i = true)
    (hQ : ∀ c a v w, Q (.panic c) (a.put oi.dst v) w → Q (.panic c) a w) (hwa : Region.wanted oi (yielded l.toArray a.tmps) = false)
    (h : wpAnyG P md l.toArray C Q fuel (listed.setIfInBounds i true) (a.put oi.dst undef) w) : wpAnyG P md l.toArray C Q (fuel + 1) listed a w :=
  wpAnyG_first hC (drop_get hi) (Region.noSelect_spec hs) hQ fuel listed a _ w hw (Region.free_spec (drop_get hi) hf) (by simpa using hr) (.inr ⟨hwa, rfl⟩) h
/-- the one that may come up is carried out -/
theorem wpAnyG_one {l r : List Oper} {i : Nat} {oi : Oper} {fuel : Nat} {listed : Array Bool} {a : Act} {w : World} (hr : Region.ready md l.toArray listed = [i]) (hi : l.drop i = oi :: r) (hwa : Region.wanted oi (yielded l.toArray a.tmps) = true)
    (h : ∀ w', Below w.heap.size w w' → ∀ K : Act → World → Prop, (∀ a' w'', C w'' → wpAnyG P md l.toArray C Q fuel (listed.setIfInBounds i true) a' w'' → K a' w'') → oi.wp P a w' K Q) : wpAnyG P md l.toArray C Q (fuel + 1) listed a w := fun w' hb =>
  ⟨fun h0 => (by rw [hr] at h0; cases h0), fun j hj => by
    rw [hr] at hj
    obtain rfl : j = i := by simpa using hj
    unfold wpOp
    simp only [drop_get hi, hwa, if_true]
    exact .inl (h w' hb _ fun _ _ p q => ⟨p, q⟩)⟩
/-- one of two -/
theorem wpAnyG_two {l r r' : List Oper} {i k : Nat} {oi ok : Oper} {fuel : Nat} {listed : Array Bool} {a : Act} {w : World} (hr : Region.ready md l.toArray listed = [i, k]) (hi : l.drop i = oi :: r) (hk : l.drop k = ok :: r') (hwi : Region.wanted oi (yielded l.toArray a.tmps) = true) (hwk : Region.wanted ok (yielded l.toArray a.tmps) = true)
    (h1 : ∀ w', Below w.heap.size w w' → ∀ K : Act → World → Prop, (∀ a' w'', C w'' → wpAnyG P md l.toArray C Q fuel (listed.setIfInBounds i true) a' w'' → K a' w'') → oi.wp P a w' K Q)
    (h2 : ∀ w', Below w.heap.size w w' → ∀ K : Act → World → Prop, (∀ a' w'', C w'' → wpAnyG P md l.toArray C Q fuel (listed.setIfInBounds k true) a' w'' → K a' w'') → ok.wp P a w' K Q) : wpAnyG P md l.toArray C Q (fuel + 1) listed a w := fun w' hb =>
  ⟨fun h0 => (by rw [hr] at h0; cases h0), fun j hj => by
    rw [hr] at hj
    rcases List.mem_cons.1 hj with rfl | hj
    · unfold wpOp
      simp only [drop_get hi, hwi, if_true]
      exact .inl (h1 w' hb _ fun _ _ p q => ⟨p, q⟩)
    · obtain rfl : j = k := by simpa using hj
      unfold wpOp
      simp only [drop_get hk, hwk, if_true]
      exact .inl (h2 w' hb _ fun _ _ p q => ⟨p, q⟩)⟩
theorem wpAnyG_done {listed : Array Bool} {a : Act} {w : World} (hr : Region.ready md ops listed = []) (h : ∀ w', Below w.heap.size w w' → Q .normal a w') : ∀ fuel, wpAnyG P md ops C Q fuel listed a w
  | 0 => ⟨hr, h⟩
  | _ + 1 => fun w' hb => ⟨fun _ => h w' hb, by rw [hr]; simp⟩
theorem wp_region_garb {id : Nat} {a : Act} {w : World} {l : List Oper} (C : World → Prop) (hm : P.follows .mixedOrders = true)
    (h : wpAnyG P .any l.toArray C Q l.length (Array.replicate l.length false) a w.drew) : (Code.region id l.toArray true).wp P Q a w :=
  wp_region_any hm (by simpa using wpAnyG_sound h)
end
end Go.Proofs.YtlofopnjjeeehaaDoor.Bn
