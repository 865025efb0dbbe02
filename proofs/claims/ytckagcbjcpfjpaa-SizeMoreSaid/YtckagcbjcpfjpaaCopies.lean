/- A region that copies one struct into several new boxes, in whatever order: where the boxes lie is left open. -/
import Derived.Orders
import Derived.Below
import Derived.Laws.Rows
import Derived.Laws.Tables
import Derived.WalkKit
namespace Go.Proofs.Ytckagcbjcpfjpaa
open Go.RowKit
section
variable {P : Program} {ops : Array Oper} {Q : Exit → Act → World → Prop} {md : Region.Mode}
/-- what is not listed yet -/
def unlisted (ops : Array Oper) (listed : Array Bool) : Nat := (List.range ops.size).countP fun i => !listed.getD i true
theorem unlisted_step {listed : Array Bool} {i : Nat} (h : i ∈ Region.ready md ops listed) : unlisted ops (listed.setIfInBounds i true) < unlisted ops listed := by
  obtain ⟨h0, o, ho, _⟩ := mem_ready.1 h
  have hi : i < ops.size := (Array.getElem?_eq_some_iff.1 ho).1
  have hl : i < listed.size := by
    rcases Nat.lt_or_ge i listed.size with h1 | h1
    · exact h1
    · simp [Array.getElem?_eq_none h1] at h0
  unfold unlisted
  have key : ∀ l : List Nat, i ∈ l → l.countP (fun j => !(listed.setIfInBounds i true).getD j true) < l.countP (fun j => !listed.getD j true) := fun l => by
    have hle : ∀ l : List Nat, l.countP (fun j => !(listed.setIfInBounds i true).getD j true) ≤ l.countP (fun j => !listed.getD j true) := fun l => by
      refine List.countP_mono_left fun j _ hj => ?_
      by_cases e : i = j
      · subst e; simp [hl] at hj
      · rw [getD_set_ne true e] at hj; exact hj
    induction l with
    | nil => intro h; cases h
    | cons a l ih =>
      intro hm
      simp only [List.countP_cons]
      by_cases e : a = i
      · subst e
        have h1 : (listed.setIfInBounds a true).getD a true = true := by simp [hl]
        have h2 := hle l
        rw [h1, h0]
        simp only [Bool.not_true, Bool.not_false, if_true]
        simp only [Bool.false_eq_true, if_false]
        omega
      · have hm' : i ∈ l := by
          rcases List.mem_cons.1 hm with h | h
          · exact absurd h.symm e
          · exact h
        have := ih hm'
        rw [getD_set_ne true (Ne.symm e)]; omega
  exact key _ (List.mem_range.2 hi)
/-- an invariant over what has come up: whatever order is picked -/
theorem wpAny_inv {I : Array Bool → Act → World → Prop}
    (hstep : ∀ listed a w, I listed a w → ∀ i, i ∈ Region.ready md ops listed → wpOp P ops Q i (I (listed.setIfInBounds i true)) a w)
    (hend : ∀ listed a w, I listed a w → Region.ready md ops listed = [] → Q .normal a w) :
    ∀ fuel listed a w, unlisted ops listed ≤ fuel → I listed a w → wpAny P md ops Q fuel listed a w := by
  intro fuel
  induction fuel with
  | zero =>
    intro listed a w hf hI
    have hr : Region.ready md ops listed = [] := by
      cases hr : Region.ready md ops listed with
      | nil => rfl
      | cons x xs =>
        have := unlisted_step (md := md) (ops := ops) (listed := listed) (i := x) (by rw [hr]; simp)
        omega
    exact ⟨hr, hend _ _ _ hI hr⟩
  | succ fuel ih =>
    intro listed a w hf hI
    refine ⟨fun hr => hend _ _ _ hI hr, fun i hi => ?_⟩
    have hs := hstep listed a w hI i hi
    have hu := unlisted_step hi
    have hk : ∀ a' w', I (listed.setIfInBounds i true) a' w' → wpAny P md ops Q fuel (listed.setIfInBounds i true) a' w' := fun a' w' h' => ih _ a' w' (by omega) h'
    exact wpOp_mono hk hs
theorem unlisted_all (ops : Array Oper) : unlisted ops (Array.replicate ops.size false) ≤ ops.size := by
  unfold unlisted
  have := List.countP_le_length (p := fun i => !(Array.replicate ops.size false).getD i true) (l := List.range ops.size)
  simpa using this
theorem wp_region_inv {id : Nat} {a : Act} {w : World} {I : Array Bool → Act → World → Prop} (hm : P.follows .mixedOrders = true)
    (h0 : I (Array.replicate ops.size false) a { w with drawn := w.drawn + 1 })
    (hstep : ∀ listed a w, I listed a w → ∀ i, i ∈ Region.ready .any ops listed → wpOp P ops Q i (I (listed.setIfInBounds i true)) a w)
    (hend : ∀ listed a w, I listed a w → Region.ready .any ops listed = [] → Q .normal a w) : (Code.region id ops true).wp P Q a w :=
  wp_region_any hm (wpAny_inv hstep hend _ _ _ _ (unlisted_all ops) h0)
/-- an operation without a guard -/
theorem wpOp_plain {i : Nat} {o : Oper} {K : Act → World → Prop} {a : Act} {w : World} (ho : ops[i]? = some o) (hg : o.guard = none) (h : o.wp P a w K Q) : wpOp P ops Q i K a w := by
  unfold wpOp
  have : Region.wanted o (yielded ops a.tmps) = true := by simp [Region.wanted, hg]
  simp [ho, this, h]
/-- the copies: the frame behind the region -/
def putCopies (cs : Array Value) (L D : Nat → Tmp) (g : Nat → Nat) : Nat → Act → Act
  | 0, a => a
  | n + 1, a => ((putCopies cs L D g n a).put (some (L n)) (.agg cs)).put (some (D n)) (.pointer (some ⟨g n, 0, none⟩))
structure CopyInv (n : Nat) (T : TypeId) (cs : Array Value) (L D : Nat → Tmp) (a0 : Act) (w0 : World) (listed : Array Bool) (a : Act) (w : World) : Prop where
  lsize : listed.size = 3 * n
  size : a.tmps.size = a0.tmps.size
  defers : a.defers = a0.defers
  other : ∀ j, (∀ k, k < n → j ≠ L k ∧ j ≠ D k) → a.tmps[j]? = a0.tmps[j]?
  ld : ∀ k, k < n → listed.getD k false = true → a.tmps[L k]? = some (.agg cs)
  al : ∀ k, k < n → listed.getD (n + k) false = true → ∃ g, a.tmps[D k]? = some (.pointer (some ⟨g, 0, none⟩)) ∧ w0.heap.size ≤ g ∧ ∃ old, w.heap[g]? = some (.cells old T (0, 0)) ∧ old.size = cs.size ∧ (listed.getD (2 * n + k) false = true → old = cs)
  df : ∀ k k', k < n → k' < n → k ≠ k' → listed.getD (n + k) false = true → listed.getD (n + k') false = true → a.tmps[D k]? ≠ a.tmps[D k']?
  st : ∀ k, k < n → listed.getD (2 * n + k) false = true → listed.getD (n + k) false = true
  bl : Below w0.heap.size w0 w
theorem getD_set_other {listed : Array Bool} {i j : Nat} (h : i ≠ j) : (listed.setIfInBounds i true).getD j false = listed.getD j false := getD_set_ne false h
theorem heap_lt {W : World} {g : Nat} {o : Obj} (h : W.heap[g]? = some o) : g < W.heap.size := by
  rcases Nat.lt_or_ge g W.heap.size with h1 | h1
  · exact h1
  · rw [Array.getElem?_eq_none h1] at h; cases h
set_option maxHeartbeats 1000000 in
theorem wp_copies {id n : Nat} {T : TypeId} {src : Tmp} {L D : Nat → Tmp} {hb : Nat} {cs zs : Array Value} {d : TypeDesc} {a0 : Act} {w0 : World} (hm : P.follows .mixedOrders = true)
    (hu : P.underlying T = some d) (hd : (match d with | .struct _ | .array _ _ => true | _ => false) = true) (hi : (P.info? T).map (·.size) = some cs.size) (hone : cs.all (·.oneCell') = true)
    (hz : ∀ W : World, (Instr.alloc T true (.tuple #[])).run P W = .ok (.pointer (some ⟨W.heap.size, 0, none⟩)) (W.alloc (.cells zs T))) (hzs : zs.size = cs.size)
    (hsz : ops.size = 3 * n)
    (hback : (List.range ops.size).all (fun i => ((ops[i]?).map (·.after.all fun e => !Region.binds .any e || decide (e.on < i))).getD true) = true)
    (hl : ∀ k, k < n → ∃ o, ops[k]? = some o ∧ o.op = .load T (.tmp src) ∧ o.dst = some (L k) ∧ o.guard = none)
    (ha : ∀ k, k < n → ∃ o, ops[n + k]? = some o ∧ o.op = .alloc T ∧ o.dst = some (D k) ∧ o.guard = none)
    (hs : ∀ k, k < n → ∃ o, ops[2 * n + k]? = some o ∧ o.op = .store T (.tmp (D k)) (.tmp (L k)) ∧ o.dst = none ∧ o.guard = none ∧ (o.after.any fun e => Region.binds .any e && e.on == n + k) = true ∧ (o.after.any fun e => Region.binds .any e && e.on == k) = true)
    (hL : ∀ k, k < n → L k < a0.tmps.size) (hD : ∀ k, k < n → D k < a0.tmps.size) (hLL : ∀ k k', k < n → k' < n → k ≠ k' → L k ≠ L k') (hDD : ∀ k k', k < n → k' < n → k ≠ k' → D k ≠ D k') (hLD : ∀ k k', k < n → k' < n → L k ≠ D k')
    (hsrc : ∀ k, k < n → src ≠ L k ∧ src ≠ D k) (h5 : a0.tmps[src]? = some (.pointer (some ⟨hb, 0, none⟩))) (hblk : w0.heap[hb]? = some (.cells cs T (0, 0)))
    (hQ : ∀ (g : Nat → Nat) (w : World), Below w0.heap.size w0 w → (∀ k, k < n → w0.heap.size ≤ g k ∧ w.heap[g k]? = some (.cells cs T (0, 0))) → (∀ k k', k < n → k' < n → k ≠ k' → g k ≠ g k') → Q .normal (putCopies cs L D g n a0) w) :
    (Code.region id ops true).wp P Q a0 w0 := by
  have hbl := heap_lt hblk
  refine wp_region_inv (I := CopyInv n T cs L D a0 w0) hm ?_ ?_ ?_
  · have hf : ∀ j, (Array.replicate ops.size false).getD j false = false := fun j => by
      simp only [Array.getD_eq_getD_getElem?, Array.getElem?_replicate]
      split <;> rfl
    refine ⟨by simp [hsz], rfl, rfl, fun _ _ => rfl, fun k _ h => ?_, fun k _ h => ?_, fun k k' _ _ _ h => ?_, fun k _ h => ?_, (Below.refl _ _).drew⟩
    · rw [hf] at h; cases h
    · rw [hf] at h; cases h
    · rw [hf] at h; cases h
    · rw [hf] at h; cases h
  · intro listed a w I i hi9
    obtain ⟨hun, o, ho, hdeps⟩ := mem_ready.1 hi9
    have hio : i < ops.size := (Array.getElem?_eq_some_iff.1 ho).1
    rw [hsz] at hio
    have hset : (listed.setIfInBounds i true).getD i false = true := by simp [I.lsize, hio]
    by_cases c1 : i < n
    · obtain ⟨o', ho', hop, hdst, hg⟩ := hl i c1
      rw [ho] at ho'
      cases ho'
      refine wpOp_plain ho hg ?_
      have hsv : a.eval (.tmp src) = .pointer (some ⟨hb, 0, none⟩) := by
        simp [Act.eval, I.other src hsrc, h5]
      refine wp_load_row T (.tmp src) hop hb hsv T cs (0, 0) d ((I.bl.block hb hbl).trans hblk) hu hd hi ?_
      rw [hdst]
      have hLi : L i < a.tmps.size := by rw [I.size]; exact hL i c1
      refine ⟨by simp [I.lsize], by simp [Act.put, I.size], by simp [Act.put, I.defers], fun j hj => ?_, fun k hk hk9 => ?_, fun k hk hk9 => ?_, fun k k' hk hk' hne h1 h2 => ?_, fun k hk h => ?_, I.bl⟩
      · rw [← I.other j hj]
        simp only [Act.put]
        rw [Array.getElem?_setIfInBounds_ne (Ne.symm (hj i c1).1)]
      · simp only [Act.put]
        by_cases e : i = k
        · subst e; simp [hLi]
        · rw [Array.getElem?_setIfInBounds_ne (hLL i k c1 hk e)]
          rw [getD_set_other e] at hk9
          exact I.ld k hk hk9
      · rw [getD_set_other (by omega)] at hk9
        obtain ⟨g, h1, h2, old, h3, h4, h6⟩ := I.al k hk hk9
        refine ⟨g, ?_, h2, old, h3, h4, ?_⟩
        · simp only [Act.put]
          rw [Array.getElem?_setIfInBounds_ne (hLD i k c1 hk)]
          exact h1
        · rw [getD_set_other (by omega)]
          exact h6
      · rw [getD_set_other (by omega)] at h1 h2
        simp only [Act.put]
        rw [Array.getElem?_setIfInBounds_ne (hLD i k c1 hk), Array.getElem?_setIfInBounds_ne (hLD i k' c1 hk')]
        exact I.df k k' hk hk' hne h1 h2
      · rw [getD_set_other (by omega)] at h ⊢
        exact I.st k hk h
    · by_cases c2 : i < 2 * n
      · obtain ⟨k0, rfl⟩ : ∃ k0, i = n + k0 := ⟨i - n, by omega⟩
        have hk0 : k0 < n := by omega
        obtain ⟨o', ho', hop, hdst, hg⟩ := ha k0 hk0
        rw [ho] at ho'
        cases ho'
        refine wpOp_plain ho hg ?_
        have hx : Oper.wp P o a w (CopyInv n T cs L D a0 w0 (listed.setIfInBounds (n + k0) true)) Q = CopyInv n T cs L D a0 w0 (listed.setIfInBounds (n + k0) true) (a.put o.dst (.pointer (some ⟨w.heap.size, 0, none⟩))) (w.alloc (.cells zs T)) := by
          unfold Oper.wp execOp
          simp only [hop, Sem.run_bind, hz, Result.andThen_ok, Sem.run_pure]
          rfl
        rw [hx, hdst]
        have hDi : D k0 < a.tmps.size := by rw [I.size]; exact hD k0 hk0
        have hnew : ∀ k, k < n → listed.getD (n + k) false = true → a.tmps[D k]? ≠ some (.pointer (some ⟨w.heap.size, 0, none⟩)) := fun k hk h e => by
          obtain ⟨g, h1, _, old, h3, _⟩ := I.al k hk h
          rw [h1] at e
          have : g = w.heap.size := by simpa using e
          have := heap_lt h3
          omega
        refine ⟨by simp [I.lsize], by simp [Act.put, I.size], by simp [Act.put, I.defers], fun j hj => ?_, fun k hk hk9 => ?_, fun k hk hk9 => ?_, fun k k' hk hk' hne h1 h2 => ?_, fun k hk h => ?_, I.bl.alloc I.bl.size _⟩
        · rw [← I.other j hj]
          simp only [Act.put]
          rw [Array.getElem?_setIfInBounds_ne (Ne.symm (hj k0 hk0).2)]
        · rw [getD_set_other (by omega)] at hk9
          simp only [Act.put]
          rw [Array.getElem?_setIfInBounds_ne (Ne.symm (hLD k k0 hk hk0))]
          exact I.ld k hk hk9
        · by_cases e : k0 = k
          · subst e
            refine ⟨w.heap.size, by simp [Act.put, hDi], I.bl.size, zs, heap_alloc_new w _, hzs, fun h => ?_⟩
            rw [getD_set_other (by omega)] at h
            -- the store cannot have come up before
            have h7 := I.st k0 hk0 h
            have h8 : listed.getD (n + k0) false = listed.getD (n + k0) true := by simp [I.lsize, show n + k0 < 3 * n by omega]
            rw [h8, hun] at h7
            cases h7
          · rw [getD_set_other (by omega)] at hk9
            obtain ⟨g, h1, h2, old, h3, h4, h6⟩ := I.al k hk hk9
            refine ⟨g, ?_, h2, old, ?_, h4, ?_⟩
            · simp only [Act.put]
              rw [Array.getElem?_setIfInBounds_ne (hDD k0 k hk0 hk e)]
              exact h1
            · rw [Below.heap_alloc _ _ _ (heap_lt h3)]; exact h3
            · rw [getD_set_other (by omega)]
              exact h6
        · simp only [Act.put]
          by_cases e : k0 = k
          · subst e
            rw [getD_set_other (by omega)] at h2
            rw [Array.getElem?_setIfInBounds_ne (hDD k0 k' hk0 hk' hne)]
            have h9 := hnew k' hk' h2
            simp [hDi]
            exact Ne.symm h9
          · by_cases e' : k0 = k'
            · subst e'
              rw [getD_set_other (by omega)] at h1
              rw [Array.getElem?_setIfInBounds_ne (hDD k0 k hk0 hk e)]
              have h9 := hnew k hk h1
              simp [hDi]
              exact h9
            · rw [getD_set_other (by omega)] at h1 h2
              rw [Array.getElem?_setIfInBounds_ne (hDD k0 k hk0 hk e), Array.getElem?_setIfInBounds_ne (hDD k0 k' hk0 hk' e')]
              exact I.df k k' hk hk' hne h1 h2
        · rw [getD_set_other (by omega)] at h
          by_cases e : k0 = k
          · subst e; exact hset
          · rw [getD_set_other (by omega)]; exact I.st k hk h
      · obtain ⟨k0, rfl⟩ : ∃ k0, i = 2 * n + k0 := ⟨i - 2 * n, by omega⟩
        have hk0 : k0 < n := by omega
        obtain ⟨o', ho', hop, hdst, hg, e1, e2⟩ := hs k0 hk0
        rw [ho] at ho'
        cases ho'
        have dep : ∀ j, (o.after.any fun e => Region.binds .any e && e.on == j) = true → listed.getD j false = true := fun j hj => by
          obtain ⟨q, hq, hb9⟩ := Array.any_eq_true.1 hj
          obtain ⟨e, he⟩ : ∃ e, e = o.after[q] := ⟨_, rfl⟩
          rw [← he] at hb9
          have he : e ∈ o.after := by rw [he]; exact Array.getElem_mem hq
          simp only [Bool.and_eq_true, beq_iff_eq] at hb9
          rw [← hb9.2]
          exact hdeps e he hb9.1
        have d1 := dep _ e1
        have d2 := dep _ e2
        refine wpOp_plain ho hg ?_
        obtain ⟨g, hg1, hg2, old, hg3, hg4, _⟩ := I.al k0 hk0 d1
        have hx : a.eval (.tmp (D k0)) = .pointer (some ⟨g, 0, none⟩) := by simp [Act.eval, hg1]
        have hy : a.eval (.tmp (L k0)) = .agg cs := by simp [Act.eval, I.ld k0 hk0 d2]
        refine wp_store_row T (.tmp (D k0)) (.tmp (L k0)) hop g cs hx hy T old hg3 hi hg4 hone ?_
        rw [hdst]
        have hab : a.put none undef = a := rfl
        rw [hab]
        refine ⟨by simp [I.lsize], I.size, I.defers, I.other, fun k hk hk9 => ?_, fun k hk hk9 => ?_, fun k k' hk hk' hne h1 h2 => ?_, fun k hk h => ?_, ?_⟩
        · rw [getD_set_other (by omega)] at hk9
          exact I.ld k hk hk9
        · rw [getD_set_other (by omega)] at hk9
          by_cases e : k0 = k
          · subst e
            exact ⟨g, hg1, hg2, cs, setRow_heap w g old cs T (0, 0) hg3, rfl, fun _ => rfl⟩
          · obtain ⟨g', h1, h2, old', h3, h4, h6⟩ := I.al k hk hk9
            refine ⟨g', h1, h2, old', ?_, h4, ?_⟩
            · rw [setRow_other w g g' cs (fun e9 => ?_)]
              · exact h3
              · have := I.df k0 k hk0 hk e d1 hk9
                rw [hg1, h1, e9] at this
                exact this rfl
            · rw [getD_set_other (by omega)]
              exact h6
        · rw [getD_set_other (by omega)] at h1 h2
          exact I.df k k' hk hk' hne h1 h2
        · rw [getD_set_other (by omega)]
          by_cases e : k0 = k
          · subst e; exact d1
          · rw [getD_set_other (by omega)] at h
            exact I.st k hk h
        · exact ⟨I.bl.os, I.bl.tape, I.bl.output, by rw [setRow_size]; exact I.bl.size, fun k hk => by rw [setRow_other w g k cs (by omega)]; exact I.bl.block k hk⟩
  · intro listed a w I hr
    have hall : ∀ i, i < 3 * n → listed.getD i false = true := fun i => by
      induction i using Nat.strongRecOn with
      | ind i ih =>
        intro hi9
        have ho : ops[i]? = some (ops[i]'(by omega)) := Array.getElem?_eq_getElem (by omega)
        have h8 : listed.getD i false = listed.getD i true := by simp [I.lsize, hi9]
        rcases hq : listed.getD i true with _ | _
        · exfalso
          have : i ∈ Region.ready .any ops listed := mem_ready.2 ⟨hq, _, ho, fun e he hb9 => by
            have := List.all_eq_true.1 hback i (List.mem_range.2 (by omega))
            rw [ho] at this
            simp only [Option.map_some, Option.getD_some, Array.all_eq_true_iff_forall_mem, Bool.or_eq_true, Bool.not_eq_true', decide_eq_true_eq] at this
            rcases this e he with h1 | h1
            · rw [hb9] at h1; cases h1
            · exact ih e.on h1 (by omega)⟩
          rw [hr] at this
          cases this
        · rw [h8, hq]
    have key : ∀ k : Nat, ∃ g, k < n → a.tmps[D k]? = some (.pointer (some ⟨g, 0, none⟩)) ∧ w0.heap.size ≤ g ∧ w.heap[g]? = some (.cells cs T (0, 0)) := fun k => by
      by_cases hk : k < n
      · obtain ⟨g, h1, h2, old, h3, h4, h6⟩ := I.al k hk (hall _ (by omega))
        have := h6 (hall _ (by omega))
        subst this
        exact ⟨g, fun _ => ⟨h1, h2, h3⟩⟩
      · exact ⟨0, fun h => absurd h hk⟩
    obtain ⟨g, hg⟩ := Classical.axiomOfChoice key
    have ea : a = putCopies cs L D g n a0 := by
      have sz : ∀ m, (putCopies cs L D g m a0).tmps.size = a0.tmps.size := fun m => by
        induction m with
        | zero => rfl
        | succ m ih => simp [putCopies, Act.put, ih]
      have df : ∀ m, (putCopies cs L D g m a0).defers = a0.defers := fun m => by
        induction m with
        | zero => rfl
        | succ m ih => simp [putCopies, Act.put, ih]
      have at_ : ∀ m, m ≤ n → (∀ j, (∀ k, k < m → j ≠ L k ∧ j ≠ D k) → (putCopies cs L D g m a0).tmps[j]? = a0.tmps[j]?) ∧ ∀ k, k < m → (putCopies cs L D g m a0).tmps[L k]? = some (.agg cs) ∧ (putCopies cs L D g m a0).tmps[D k]? = some (.pointer (some ⟨g k, 0, none⟩)) := fun m => by
        induction m with
        | zero => exact fun _ => ⟨fun _ _ => rfl, fun k hk => by omega⟩
        | succ m ih =>
          intro hm9
          obtain ⟨i1, i2⟩ := ih (by omega)
          have s1 := sz m
          have l1 := hL m (by omega)
          have l2 := hD m (by omega)
          refine ⟨fun j hj => ?_, fun k hk => ?_⟩
          · simp only [putCopies, Act.put]
            rw [Array.getElem?_setIfInBounds_ne (Ne.symm (hj m (by omega)).2), Array.getElem?_setIfInBounds_ne (Ne.symm (hj m (by omega)).1)]
            exact i1 j fun k hk => hj k (by omega)
          · simp only [putCopies, Act.put]
            by_cases e : k = m
            · subst e
              rw [Array.getElem?_setIfInBounds_ne (Ne.symm (hLD k k (by omega) (by omega)))]
              simp [s1, l1, l2]
            · rw [Array.getElem?_setIfInBounds_ne (Ne.symm (hLD k m (by omega) (by omega))), Array.getElem?_setIfInBounds_ne (hLL m k (by omega) (by omega) (Ne.symm e)),
                Array.getElem?_setIfInBounds_ne (hDD m k (by omega) (by omega) (Ne.symm e)), Array.getElem?_setIfInBounds_ne (hLD m k (by omega) (by omega))]
              exact i2 k (by omega)
      obtain ⟨p1, p2⟩ := at_ n (Nat.le_refl _)
      have hd := df n
      have hsn := sz n
      have ht : a.tmps = (putCopies cs L D g n a0).tmps := by
        apply Array.ext_getElem?
        intro j
        by_cases c1 : ∃ k, k < n ∧ j = L k
        · obtain ⟨k, hk, rfl⟩ := c1
          rw [(p2 k hk).1, I.ld k hk (hall _ (by omega))]
        · by_cases c2 : ∃ k, k < n ∧ j = D k
          · obtain ⟨k, hk, rfl⟩ := c2
            rw [(p2 k hk).2, (hg k hk).1]
          · have hno : ∀ k, k < n → j ≠ L k ∧ j ≠ D k := fun k hk => ⟨fun e => c1 ⟨k, hk, e⟩, fun e => c2 ⟨k, hk, e⟩⟩
            rw [p1 j hno, I.other j hno]
      have hd2 := I.defers
      generalize putCopies cs L D g n a0 = b at *
      obtain ⟨x, y⟩ := a
      obtain ⟨x', y'⟩ := b
      simp only at ht hd hd2
      subst ht
      rw [hd2, hd]
    rw [ea]
    refine hQ g w I.bl (fun k hk => (hg k hk).2) fun k k' hk hk' hne e => ?_
    have := I.df k k' hk hk' hne (hall _ (by omega)) (hall _ (by omega))
    rw [(hg k hk).1, (hg k' hk').1, e] at this
    exact this rfl
end
end Go.Proofs.Ytckagcbjcpfjpaa
