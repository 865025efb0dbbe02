/-
  A drawn region in a round: it goes as in a function's own frame ('wpAny'), if no deferred call is in it and nothing is let out.
-/
import Derived.Test.YtipnaeijbbbdoaaRange3
import Derived.Test.YtipnaeijbbbdoaaPhase
import Derived.OrdersIn
namespace Go.Proofs.Ytipnaeijbbbdoaa
open Go.RowKit
variable {n l : Nat} {P : Program} {Q : Exit → Act → World → Prop}
theorem upon_round {o : Oper} {a : Act} {next : Act → World → Prop} {r : Result Next} (h : o.upon P a next Q r) : o.uponIn (Fence.wide.inRound l) n P a next Q r := by
  cases r with
  | ok x w =>
    cases x with
    | value v => exact h
    | skip => exact h
    | defer d => exact h
    | enter f args => exact ⟨fun hd => by simp [Fence.wide] at hd, (callsIn_wide (n := n - 1)).2 h⟩
    | row row args => exact ⟨fun hd => by simp [Fence.wide] at hd, fun c cs _ => let ⟨v, w', r, s⟩ := (show Rows P row args w _ from h) c cs; ⟨v, w', r, stepsIn_wide.2 s⟩⟩
    | round => exact False.elim h
    | _ => first | exact h | exact False.elim h
  | halt x w => cases x <;> first | exact h | exact False.elim h
theorem wpOp_round {ops : Array Oper} (hnd : ∀ (i : Nat) (o : Oper) c, ops[i]? = some o → o.op ≠ .defer c) (hQ : ¬ LetsOut Q) {i : Nat} {K K' : Act → World → Prop} (hK : ∀ a w, K a w → K' a w) {a : Act} {w : World}
    (h : wpOp P ops Q i K a w) : wpOpIn (Fence.wide.inRound l) n P ops Q i K' a w := by
  unfold wpOp at h
  unfold wpOpIn
  cases ho : ops[i]? with
  | none => rw [ho] at h; exact hK _ _ h
  | some o =>
    rw [ho] at h
    simp only at h ⊢
    split
    · rename_i hw
      rw [if_pos hw] at h
      rcases h with h | ⟨_, h⟩
      · refine ⟨fun _ _ => trivial, ?_⟩
        rw [Oper.semAt_eq _ _ _ (fun c => hnd i o c ho)]
        exact upon_round (Oper.wp_mono hK h)
      · exact absurd h hQ
    · rename_i hw
      rw [if_neg hw] at h
      exact ⟨fun _ _ => trivial, hK _ _ h⟩
theorem wpAny_round {ops : Array Oper} {md : Region.Mode} (hnd : ∀ (i : Nat) (o : Oper) c, ops[i]? = some o → o.op ≠ .defer c) (hQ : ¬ LetsOut Q) : ∀ {fuel : Nat} {listed : Array Bool} {a : Act} {w : World},
    wpAny P md ops Q fuel listed a w → wpAnyIn (Fence.wide.inRound l) n P md ops Q fuel listed a w
  | 0, _, _, _, h => h
  | _ + 1, _, _, _, h => ⟨h.1, fun i hi => wpOp_round hnd hQ (fun _ _ h9 => wpAny_round hnd hQ h9) (h.2 i hi)⟩
theorem nodefer {l : List Oper} (h : l.all (fun o => match o.op with | .defer _ => false | _ => true) = true) : ∀ (i : Nat) (o : Oper) c, l.toArray[i]? = some o → o.op ≠ .defer c := by
  intro i o c ho he
  have hm : o ∈ l := by
    have : l[i]? = some o := by simpa using ho
    exact List.mem_of_getElem? this
  have h9 := List.all_eq_true.1 h o hm
  rw [he] at h9
  cases h9
theorem wpIn_round_garb {id : Nat} {a : Act} {w : World} {ops : List Oper} (C : World → Prop) (hm : P.follows .mixedOrders = true) (hnd : ops.all (fun o => match o.op with | .defer _ => false | _ => true) = true) (hQ : ¬ LetsOut Q)
    (h : wpAnyG P .any ops.toArray C Q ops.length (Array.replicate ops.length false) a w.drew) : (Code.region id ops.toArray true).wpIn (Fence.wide.inRound l) n P Q a w := by
  refine wpIn_region_any hm ?_
  have h9 := wpAny_round (l := l) (n := n) (nodefer hnd) hQ (wpAnyG_sound h)
  simpa using h9
theorem wpIn_round_phase {id : Nat} {a : Act} {w : World} {ops : List Oper} (st : Nat) (C0 C1 : World → Prop) (hm : P.follows .mixedOrders = true) (hnd : ops.all (fun o => match o.op with | .defer _ => false | _ => true) = true) (hQ : ¬ LetsOut Q)
    (h : wpAnyP P .any ops.toArray (Ph st C0 C1) Q ops.length (Array.replicate ops.length false) a w.drew) : (Code.region id ops.toArray true).wpIn (Fence.wide.inRound l) n P Q a w := by
  refine wpIn_region_any hm ?_
  have h9 := wpAny_round (l := l) (n := n) (nodefer hnd) hQ (wpAnyP_sound h)
  simpa using h9
/-- the operations of a region that draws nothing -/
theorem wpList_round {ops : Array Oper} (hQ : ¬ LetsOut Q) : ∀ {r : List Oper} {a : Act} {w : World}, (r.all (fun o => match o.op with | .defer _ => false | _ => true) = true) → wpList P ops Q r a w → wpListIn (Fence.wide.inRound l) n P ops Q r a w
  | [], _, _, _, h => h
  | o :: r, a, w, hnd, h => by
    have hnd' := List.all_eq_true.1 hnd
    have h1 : r.all (fun o => match o.op with | .defer _ => false | _ => true) = true := List.all_eq_true.2 fun x hx => hnd' x (by simp [hx])
    have h2 : ∀ c, o.op ≠ .defer c := fun c he => by
      have h9 := hnd' o (by simp)
      rw [he] at h9
      cases h9
    unfold wpList at h
    unfold wpListIn
    split
    · rename_i hw
      rw [if_pos hw] at h
      rcases h with h | ⟨_, h⟩
      · refine ⟨fun _ _ => trivial, ?_⟩
        rw [Oper.semAt_eq _ _ _ h2]
        exact upon_round (Oper.wp_mono (fun _ _ h9 => wpList_round hQ h1 h9) h)
      · exact absurd h hQ
    · rename_i hw
      rw [if_neg hw] at h
      exact ⟨fun _ _ => trivial, wpList_round hQ h1 h⟩
theorem wpIn_round_lit {id : Nat} {a : Act} {w : World} {ops : List Oper} (hnd : ops.all (fun o => match o.op with | .defer _ => false | _ => true) = true) (hQ : ¬ LetsOut Q)
    (h : wpList P ops.toArray Q ops a w) : (Code.region id ops.toArray false).wpIn (Fence.wide.inRound l) n P Q a w := wpIn_region_lit (wpList_round hQ hnd h)
theorem not_letsOut_postQ {α : Type} {N0 : Nat} {Pr : Nat → Prop} {I : List α → World → Prop} {Ix : Code → List α → World → Prop} {Ip : List PanicEntry → List α → World → Prop} {xs : List α} {W : World} : ¬ LetsOut (postQ N0 Pr I Ix Ip xs W) := by
  rintro ⟨a, w, h⟩
  exact h
end Go.Proofs.Ytipnaeijbbbdoaa
