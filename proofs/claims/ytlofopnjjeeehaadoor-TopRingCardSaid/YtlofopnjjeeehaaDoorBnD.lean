/- A range over a function, for an iterator that keeps state of its own in blocks of its own, and a body that writes blocks of the caller's own. 'Same p A B': from A to B each block of A that p names lies as it lay. Turned from the library's law wpIn_rangeFunc_ownH. A range over a function, for an iterator that writes nothing old, and a body that may make and write blocks of its own while it goes round (an append to a slice of the caller's own). Turned from the law of the text Range. append to a slice of the call's own: pairs of integers, and integers. -/
import Derived.RangeFuncNested
import Derived.RangeFuncBound
import Derived.RangeFuncCalls
import Derived.RangeFuncLeaves
import Derived.WalkKit
import Derived.Deep.Draws
import Derived.Test.YtlofopnjjeeehaaDoorBnB
import Derived.Laws.AppendOwnNone
import Derived.Deep.RegionHeld3
import Derived.Deep.RegionLaw
import Derived.Deep.DrawnRows
namespace Go.Proofs.YtlofopnjjeeehaaDoor.Bn
open Go.RowKit
structure Same (p : Nat → Prop) (A B : World) : Prop where
  os : B.os = A.os
  tape : B.tape = A.tape
  output : B.output = A.output
  size : A.heap.size ≤ B.heap.size
  block : ∀ k, k < A.heap.size → p k → B.heap[k]? = A.heap[k]?
theorem Same.refl (p : Nat → Prop) (A : World) : Same p A A := ⟨rfl, rfl, rfl, Nat.le_refl _, fun _ _ _ => rfl⟩
theorem Same.trans {p : Nat → Prop} {A B C : World} (h : Same p A B) (k : Same p B C) : Same p A C :=
  ⟨k.os.trans h.os, k.tape.trans h.tape, k.output.trans h.output, Nat.le_trans h.size k.size, fun i hi hp => (k.block i (Nat.lt_of_lt_of_le hi h.size) hp).trans (h.block i hi hp)⟩
theorem Same.mono {p q : Nat → Prop} {A B : World} (h : Same p A B) (hq : ∀ k, k < A.heap.size → q k → p k) : Same q A B :=
  ⟨h.os, h.tape, h.output, h.size, fun i hi hp => h.block i hi (hq i hi hp)⟩
theorem Same.alloc {p : Nat → Prop} {A B : World} (h : Same p A B) (o : Obj) : Same p A (B.alloc o) :=
  ⟨h.os, h.tape, h.output, Nat.le_trans h.size (by simp), fun i hi hp => (Below.heap_alloc B o i (Nat.lt_of_lt_of_le hi h.size)).trans (h.block i hi hp)⟩
theorem Same.setCell {p : Nat → Prop} {A B : World} (h : Same p A B) {a : Addr} (ha : p a.block → A.heap.size ≤ a.block) (u : Value) : Same p A (B.setCell a u) :=
  ⟨h.os, h.tape, h.output, by simpa [World.setCell] using h.size, fun i hi hp => (Below.heap_setCell B a u i (by rintro rfl; have := ha hp; omega)).trans (h.block i hi hp)⟩
theorem Same.drew {p : Nat → Prop} {A B : World} (h : Same p A B) : Same p A B.drew := ⟨h.os, h.tape, h.output, h.size, h.block⟩
theorem Same.drewN {p : Nat → Prop} {A B : World} (h : Same p A B) (n : Nat) : Same p A (B.drewN n) := ⟨h.os, h.tape, h.output, h.size, h.block⟩
theorem Same.putObj {p : Nat → Prop} {A B : World} (h : Same p A B) {l : Nat} (hl : p l → A.heap.size ≤ l) (o : Obj) : Same p A (B.putObj l o) :=
  ⟨h.os, h.tape, h.output, by simpa using h.size, fun i hi hp => (World.putObj_heap_other (by rintro rfl; have := hl hp; omega)).trans (h.block i hi hp)⟩
theorem Same.below {p : Nat → Prop} {A B : World} (h : Same p A B) {n : Nat} (hn : n ≤ A.heap.size) (hp : ∀ k, k < n → p k) : Below n A B :=
  ⟨h.os, h.tape, h.output, h.size, fun k hk => h.block k (Nat.lt_of_lt_of_le hk hn) (hp k hk)⟩
theorem Same.of_below {p : Nat → Prop} {A B : World} {n : Nat} (h : Below n A B) (hp : ∀ k, k < A.heap.size → p k → k < n) : Same p A B :=
  ⟨h.os, h.tape, h.output, h.size, fun k hk hp' => h.block k (hp k hk hp')⟩
theorem Same.of_grownBy {p : Nat → Prop} {A B : World} {row : Option Nat} (h : A.grownBy B row) (hr : ∀ k, row = some k → p k → A.heap.size ≤ k) : Same p A B :=
  ⟨h.os, h.tape, h.output, h.size, fun k hk hp => h.block k hk (fun e => by have := hr k e.symm hp; omega)⟩
theorem Same.cell {p : Nat → Prop} {A B : World} (h : Same p A B) {a : Addr} (ha : a.block < A.heap.size) (hp : p a.block) : B.cell? a = A.cell? a := World.cell?_of_block (w := A) (h.block a.block ha hp)
theorem Same.frozen {p : Nat → Prop} {A B : World} (h : Same p A B) {a : Addr} (ha : a.block < A.heap.size) (hp : p a.block) : B.frozen? a = A.frozen? a := World.frozen?_of_block (w := A) (h.block a.block ha hp)

theorem Same.cell_some {p : Nat → Prop} {A B : World} (h : Same p A B) {a : Addr} {v : Value} (hc : A.cell? a = some v) (hp : p a.block) : B.cell? a = some v := by
  obtain ⟨o, ho, _⟩ := cells_of_cell hc
  exact (h.cell (Array.getElem?_eq_some_iff.1 ho).1 hp).trans hc
theorem Same.frozen_some {p : Nat → Prop} {A B : World} (h : Same p A B) {a : Addr} {v : Value} {f : Bool} (hc : A.cell? a = some v) (hf : A.frozen? a = f) (hp : p a.block) : B.frozen? a = f := by
  obtain ⟨o, ho, _⟩ := cells_of_cell hc
  exact (h.frozen (Array.getElem?_eq_some_iff.1 ho).1 hp).trans hf
theorem lt_of_cell {A : World} {a : Addr} {v : Value} (hc : A.cell? a = some v) : a.block < A.heap.size := by
  obtain ⟨o, ho, _⟩ := cells_of_cell hc
  exact (Array.getElem?_eq_some_iff.1 ho).1
theorem cell_putObj {A : World} {a : Addr} {v : Value} {l : Nat} (hc : A.cell? a = some v) (hl : ∃ o' : Obj, A.heap[l]? = some o' ∧ o'.isCells = false) (o : Obj) : (A.putObj l o).cell? a = some v := by
  obtain ⟨o1, ho1, hk1⟩ := cells_of_cell hc
  obtain ⟨o', ho', hk'⟩ := hl
  refine (World.cell?_of_block (w := A) (World.putObj_heap_other ?_)).trans hc
  rintro e
  rw [e, ho'] at ho1
  cases ho1
  rw [hk'] at hk1
  cases hk1
theorem frozen_putObj {A : World} {a : Addr} {v : Value} {l : Nat} {f : Bool} (hc : A.cell? a = some v) (hf : A.frozen? a = f) (hl : ∃ o' : Obj, A.heap[l]? = some o' ∧ o'.isCells = false) (o : Obj) : (A.putObj l o).frozen? a = f := by
  obtain ⟨o1, ho1, hk1⟩ := cells_of_cell hc
  obtain ⟨o', ho', hk'⟩ := hl
  refine (World.frozen?_of_block (w := A) (World.putObj_heap_other ?_)).trans hf
  rintro e
  rw [e, ho'] at ho1
  cases ho1
  rw [hk'] at hk1
  cases hk1

/-- what speaks of blocks below n alone -/
def Stable {β : Type} (n : Nat) (I : β → World → Prop) : Prop := ∀ s A B, I s A → Same (· < n) A B → I s B

variable {F : Fence} {n : Nat} {P : Program}

/-- An iterator's contract: it asks of each round that the blocks that Pr names, and its own, lie as they lay. -/
def SeqB {α : Type} (F : Fence) (n : Nat) (P : Program) (g : Nat) (lb : Array Value) (encs : α → Array Value) (Pr : Nat → Prop) (S Sp : List α → Prop) (N : Nat) (w0 : World) : Prop :=
  ∀ (l : Nat) (J Jx : List α → World → Prop) (W : World), Same Pr w0 W → Stable W.heap.size J → Stable W.heap.size Jx →
    (∀ pre x W1, J pre W1 → pre.length < N → YieldAt F (n - 1) P l (encs x) W1 fun e W' =>
      (e = .returned (.bool true) ∧ J (pre ++ [x]) W' ∧ Same (fun b => Pr b ∨ W.heap.size ≤ b) W1 W') ∨ (e = .returned (.bool false) ∧ Jx (pre ++ [x]) W')) →
    J [] W →
    CallsIn F n P g (#[.func (.yield l) #[] #[]] ++ lb) W fun e W' => (∃ v, e = .returned v) ∧ ((∃ xs, S xs ∧ J xs W') ∨ (∃ pre, Sp pre ∧ Jx pre W'))

/-- how the body of a round may be left -/
def postB {α : Type} (N0 : Nat) (Pr : Nat → Prop) (I : List α → World → Prop) (Ix : Code → List α → World → Prop) (xs : List α) (W : World) : Exit → Act → World → Prop
  | .normal, _, W' => Same (fun b => Pr b ∨ N0 ≤ b) W W' ∧ I xs W'
  | .ret, _, W' => Same (N0 ≤ ·) W W' ∧ Ix .ret xs W'
  | .exit id, _, W' => Same (N0 ≤ ·) W W' ∧ Ix (.exit id) xs W'
  | .goto t, _, W' => Same (N0 ≤ ·) W W' ∧ Ix (.goto t) xs W'
  | .panic _, _, _ => False
  | .outgrown, _, _ => False

theorem wpIn_rangeFunc_B {α : Type} {g : Operand} {ps : Array Tmp} {assign body : Code} {Q : Exit → Act → World → Prop} {a : Act} {w : World}
    (hro : F.round = none) (h1 : 1 ≤ n) {gf : Nat} {lb : Array Value} (hg : a.eval g = .func (.func gf) #[] lb) (hFg : F.fn gf) (eg : ∀ args w, (callFunc gf args).run P w = .ok (.enter gf args) w)
    {encs : α → Array Value} {Pr : Nat → Prop} {S Sp : List α → Prop} {N : Nat} {w0 : World} (hseq : SeqB F (n - 1) P gf lb encs Pr S Sp N w0) (hb0 : Same Pr w0 w) (hPr : ∀ k, Pr k → k < w.heap.size) (hps : ∀ x, (encs x).size = ps.size)
    (I : List α → World → Prop) (Ix : Code → List α → World → Prop) (hI : Stable w.heap.size I) (hIx : ∀ c, Stable w.heap.size (Ix c)) (h0 : I [] w) (Ax : List α → α → Act → World → Prop)
    (hAx : ∀ pre x a' A l o, w.heap.size ≤ l → (∃ o', A.heap[l]? = some o' ∧ o'.isCells = false) → Ax pre x a' A → Ax pre x a' (A.putObj l o))
    (hassign : ∀ (l : Nat) (pre : List α) (x : α) (W : World) (K : Act → World → Prop), w.heap.size ≤ l → l < W.heap.size → I pre W → pre.length < N → (∀ a' W', Same (fun b => Pr b ∨ w.heap.size ≤ b) W W' → Ax pre x a' W' → K a' W') →
      assign.wpIn (F.inRound l) (n - 1 - 1) P (Exit.then K (fun _ _ _ => False)) { tmps := (ps.zip (encs x)).foldl (fun t (p, v) => t.setIfInBounds p v) a.tmps, defers := [] } W)
    (hbody : ∀ (l : Nat) (pre : List α) (x : α) (a' : Act) (W : World), w.heap.size ≤ l → (∃ r, W.heap[l]? = some (.loop r)) → Ax pre x a' W → pre.length < N → body.wpIn (F.inRound l) (n - 1 - 1) P (postB w.heap.size Pr I Ix (pre ++ [x]) W) a' W)
    (hdone : ∀ (D : Nat) (xs : List α) (W : World), w.heap.size ≤ D → S xs → I xs W → W.heap[D]? = some (.deferred (some [])) → Q .normal { a with defers := { target := .collected D, args := #[] } :: a.defers } W)
    (hstop : ∀ (D : Nat) (c : Code) (pre : List α) (W : World), w.heap.size ≤ D → Sp pre → Ix c pre W → W.heap[D]? = some (.deferred (some [])) → c.wpIn F n P Q { a with defers := { target := .collected D, args := #[] } :: a.defers } W) :
    (Code.rangeFunc g ps assign body).wpIn F n P Q a w := by
  refine wpIn_rangeFunc ?_
  intro fn hfn
  rw [hro]
  obtain ⟨rec, hrec⟩ : ∃ rec : LoopState → Option Code → Loop, rec = fun st pe => { state := st, pending := pe, fn, tmps := a.tmps, params := ps, assign, body, defers := w.heap.size } := ⟨_, rfl⟩
  obtain ⟨W1, hW1⟩ : ∃ W1, (w.alloc (.deferred (some []))).alloc (.loop (rec .ready none)) = W1 := ⟨_, rfl⟩
  have hs1 : W1.heap.size = w.heap.size + 2 := by rw [← hW1]; simp
  have hL1 : W1.heap[w.heap.size + 1]? = some (.loop (rec .ready none)) := by
    rw [← hW1]; have := World.alloc_heap_new (w.alloc (.deferred (some []))) (.loop (rec .ready none)); rwa [World.size_alloc] at this
  have hK1 : W1.heap[w.heap.size]? = some (.deferred (some [])) := by
    rw [← hW1]; exact (Below.heap_alloc _ _ _ (by simp)).trans (World.alloc_heap_new w _)
  have hw1 : ∀ q : Nat → Prop, Same q w W1 := fun q => by rw [← hW1]; exact ((Same.refl q w).alloc _).alloc _
  have hI1 : I [] W1 := hI _ _ _ h0 (hw1 _)
  have hb1 : Same Pr w0 W1 := hb0.trans (hw1 _)
  refine ⟨w.heap.size + 1, [{ target := .collected w.heap.size, args := #[] }], W1, { target := .fn (.func gf) lb, args := #[.func (.yield (w.heap.size + 1)) #[] #[]] }, W1, gf,
    #[.func (.yield (w.heap.size + 1)) #[] #[]] ++ lb, W1, ?_, ?_, ?_, ?_, fun _ => h1, ?_⟩
  · rw [← hW1, hrec]; exact run_enterLoop_outer _ _ _ _ _
  · simp only [resolve, hg]
    simp [go_sem]
  · intro f' hf'; simp [Target.leads] at hf'; subst hf'; exact hFg
  · simp [invoke, go_sem, eg]
  · have hblk : ∀ {A B : World} {k : Nat} {o : Obj}, A.heap[k]? = some o → k < w.heap.size + 2 → Same (· < W1.heap.size) A B → B.heap[k]? = some o := fun hk hlt hs => by
      have hka := (Array.getElem?_eq_some_iff.1 hk).1
      exact (hs.block _ hka (by rw [hs1]; exact hlt)).trans hk
    refine (hseq (w.heap.size + 1)
      (fun pre W => I pre W ∧ W.heap[w.heap.size + 1]? = some (.loop (rec .ready none)) ∧ W.heap[w.heap.size]? = some (.deferred (some [])))
      (fun pre W => ∃ c, Ix c pre W ∧ W.heap[w.heap.size + 1]? = some (.loop (rec .done (some c))) ∧ W.heap[w.heap.size]? = some (.deferred (some [])))
      W1 hb1
      (fun s A B hs hg' => ⟨hI s A B hs.1 (hg'.mono fun k _ hk => by omega), hblk hs.2.1 (by omega) hg', hblk hs.2.2 (by omega) hg'⟩)
      (fun s A B hs hg' => by
        obtain ⟨c, hc, hl, hk⟩ := hs
        exact ⟨c, hIx c s A B hc (hg'.mono fun k _ hk => by omega), hblk hl (by omega) hg', hblk hk (by omega) hg'⟩)
      ?_ ⟨hI1, hL1, hK1⟩).mono ?_
    · rintro pre x W ⟨hi, hl, hk⟩ hlen
      have hlt : w.heap.size + 1 < W.heap.size := (Array.getElem?_eq_some_iff.1 hl).1
      have hy := run_yield (P := P) (args := encs x) hl (by rw [hrec]; exact hps x)
      rw [hrec] at hy
      refine ⟨fn, _, assign, body, hy, roundIn_of_wpIn hfn (hassign _ pre x W _ (by omega) hlt hi hlen ?_)⟩
      clear hy
      intro a' Wa hsa hax
      replace hl := (hsa.block _ hlt (.inr (by omega))).trans hl
      replace hk := (hsa.block _ (by omega) (.inr (Nat.le_refl _))).trans hk
      replace hlt : w.heap.size + 1 < Wa.heap.size := (Array.getElem?_eq_some_iff.1 hl).1
      revert hsa
      generalize W = Wb
      intro hsa
      obtain ⟨W, rfl⟩ : ∃ W, W = Wa := ⟨_, rfl⟩
      refine ⟨_, run_beginRound hl (by rw [hrec]), ?_⟩
      have hl2 : (W.putObj (w.heap.size + 1) (.loop { rec .ready none with state := .busy })).heap[w.heap.size + 1]? = some (.loop { rec .ready none with state := .busy }) := World.putObj_heap_same hlt
      have hk2 : (W.putObj (w.heap.size + 1) (.loop { rec .ready none with state := .busy })).heap[w.heap.size]? = some (.deferred (some [])) := (World.putObj_heap_other (by omega)).trans hk
      have hw2 : Same (fun b => Pr b ∨ W1.heap.size ≤ b) W (W.putObj (w.heap.size + 1) (.loop { rec .ready none with state := .busy })) :=
        (Same.refl _ _).putObj (fun h => by
          rcases h with h | h
          · have := hPr _ h; omega
          · omega) _
      refine wpIn_mono (hbody _ pre x a' _ (by omega) ⟨_, hl2⟩ (hAx pre x a' _ _ _ (by omega) ⟨_, hl, rfl⟩ hax) hlen) ?_
      have fin : ∀ (jump : Option Code) (W3 : World), Same (w.heap.size ≤ ·) (W.putObj (w.heap.size + 1) (.loop { rec .ready none with state := .busy })) W3 →
          (Instr.endRound (w.heap.size + 1) jump).run P W3 = .ok (.bool jump.isNone) (W3.putObj (w.heap.size + 1) (.loop (rec (if jump.isNone then .ready else .done) jump))) ∧
          (W3.putObj (w.heap.size + 1) (.loop (rec (if jump.isNone then .ready else .done) jump))).heap[w.heap.size + 1]? = some (.loop (rec (if jump.isNone then .ready else .done) jump)) ∧
          (W3.putObj (w.heap.size + 1) (.loop (rec (if jump.isNone then .ready else .done) jump))).heap[w.heap.size]? = some (.deferred (some [])) := fun jump W3 hk3 => by
        have hl3 := (hk3.block _ (by simp; omega) (by omega)).trans hl2
        have := run_endRound (P := P) jump hl3
        rw [hrec] at this ⊢
        exact ⟨this, World.putObj_heap_same (Array.getElem?_eq_some_iff.1 hl3).1, (World.putObj_heap_other (by omega)).trans ((hk3.block _ (by simp; omega) (Nat.le_refl _)).trans hk2)⟩
      have hput : ∀ (W3 : World) (o : Obj) (q : Nat → Prop), (∀ k, q k → k < w.heap.size) → Same q W3 (W3.putObj (w.heap.size + 1) o) := fun W3 o q hq => (Same.refl _ _).putObj (fun h => by have := hq _ h; omega) _
      rintro e a3 W3 hp
      cases e with
      | normal =>
        obtain ⟨hk3, hi3⟩ := hp
        obtain ⟨hr, hl4, hk4⟩ := fin none W3 (hk3.mono fun k _ h => .inr h)
        refine ⟨_, _, hr, .inl ⟨rfl, ⟨hI _ _ _ hi3 (hput _ _ _ fun k h => h), hl4, hk4⟩, ?_⟩⟩
        refine (hsa.mono fun k _ h => h.imp id (by omega)).trans (hw2.trans ((hk3.mono fun k _ h => h.imp id (by omega)).trans ((Same.refl _ _).putObj (fun h => ?_) _)))
        rcases h with h | h
        · have := hPr _ h; omega
        · omega
      | ret =>
        obtain ⟨hk3, hi3⟩ := hp
        obtain ⟨hr, hl4, hk4⟩ := fin (some .ret) W3 hk3
        exact ⟨_, _, hr, .inr ⟨rfl, .ret, hIx _ _ _ _ hi3 (hput _ _ _ fun k h => h), hl4, hk4⟩⟩
      | exit id =>
        obtain ⟨hk3, hi3⟩ := hp
        obtain ⟨hr, hl4, hk4⟩ := fin (some (.exit id)) W3 hk3
        exact ⟨_, _, hr, .inr ⟨rfl, .exit id, hIx _ _ _ _ hi3 (hput _ _ _ fun k h => h), hl4, hk4⟩⟩
      | goto t =>
        obtain ⟨hk3, hi3⟩ := hp
        obtain ⟨hr, hl4, hk4⟩ := fin (some (.goto t)) W3 hk3
        exact ⟨_, _, hr, .inr ⟨rfl, .goto t, hIx _ _ _ _ hi3 (hput _ _ _ fun k h => h), hl4, hk4⟩⟩
      | panic ch => exact hp.elim
      | outgrown => exact hp.elim
    · rintro e W2 ⟨⟨v, rfl⟩, (⟨xs, hS, hi, hl, hk⟩ | ⟨pre, hSp, c, hi, hl, hk⟩)⟩
      · exact ⟨none, _, by have := run_endLoop (P := P) hl (by rw [hrec]; simp); rw [hrec] at this; exact this, hdone _ xs _ (Nat.le_refl _) hS (hI _ _ _ hi ((Same.refl _ _).putObj (by omega) _)) ((World.putObj_heap_other (by omega)).trans hk)⟩
      · exact ⟨some c, _, by have := run_endLoop (P := P) hl (by rw [hrec]; simp); rw [hrec] at this; exact this, hstop _ c pre _ (Nat.le_refl _) hSp (hIx c _ _ _ hi ((Same.refl _ _).putObj (by omega) _)) ((World.putObj_heap_other (by omega)).trans hk)⟩

/-! A function that holds such a loop: its contract from its body, and its ways out. -/
theorem calls_of_wp_marks {f : FuncId} {fn : Func} {c : Code} {args : Array Value} {w : World} {R : Ending → World → Prop}
    (hf : P.funcs[f]? = some fn) (hb : fn.body = some c)
    (h : c.wp P (bodyPostM Fence.wide 8 P fn R) { tmps := args ++ Array.replicate (fn.ntmps - args.size) undef, defers := [] } w) : Calls P f args w R :=
  callsIn_wide.1 (callsIn_of_wp_marks (n := 8) hf hb trivial (wpIn_wide.2 h))
theorem leave_mark {fn : Func} {R : Ending → World → Prop} {tmps : Array Value} {W : World} {D : Nat} {v : Value} {e : Exit} (he : e = .ret ∨ e = .normal) (hK : W.heap[D]? = some (.deferred (some [])))
    (hv : (results fn tmps).run P (W.putObj D (.deferred none)) = .ok v (W.putObj D (.deferred none))) (hR : R (.returned v) (W.putObj D (.deferred none))) :
    bodyPostM Fence.wide 8 P fn R e { tmps, defers := [{ target := .collected D, args := #[] }] } W := by
  rcases he with rfl | rfl
  · exact ⟨by simp, .inl ⟨_, _, rfl, run_takeDeferred hK, ⟨_, hv, hR⟩⟩⟩
  · exact ⟨by simp, .inl ⟨_, _, rfl, run_takeDeferred hK, ⟨_, hv, hR⟩⟩⟩
theorem leave_plain {fn : Func} {R : Ending → World → Prop} {tmps : Array Value} {W : World} {v : Value} {e : Exit} (he : e = .ret ∨ e = .normal) (hv : (results fn tmps).run P W = .ok v W) (hR : R (.returned v) W) :
    bodyPostM Fence.wide 8 P fn R e { tmps, defers := [] } W := by
  rcases he with rfl | rfl
  · exact ⟨_, hv, hR⟩
  · exact ⟨_, hv, hR⟩
end Go.Proofs.YtlofopnjjeeehaaDoor.Bn
namespace Go.Proofs.YtlofopnjjeeehaaDoor.Bn
open Go.RowKit
/-- every block of cells lies as it lay, and every block below n -/
structure SameC (n : Nat) (A B : World) : Prop where
  os : B.os = A.os
  tape : B.tape = A.tape
  output : B.output = A.output
  size : A.heap.size ≤ B.heap.size
  low : ∀ k, k < n → k < A.heap.size → B.heap[k]? = A.heap[k]?
  block : ∀ (k : Nat) (o : Obj), A.heap[k]? = some o → o.isCells = true → B.heap[k]? = some o
theorem SameC.of_below {n : Nat} {A B : World} (h : Below A.heap.size A B) : SameC n A B := ⟨h.os, h.tape, h.output, h.size, fun k _ hk => h.block k hk, fun k _ ho _ => (h.block k (Array.getElem?_eq_some_iff.1 ho).1).trans ho⟩
theorem SameC.of_put {n : Nat} {A : World} {l : Nat} (hl : ∃ o' : Obj, A.heap[l]? = some o' ∧ o'.isCells = false) (hn : n ≤ l) (o : Obj) : SameC n A (A.putObj l o) := ⟨rfl, rfl, rfl, by simp, fun k hk _ => World.putObj_heap_other (by omega), fun k _ ho hk => by
  obtain ⟨o', ho', hk'⟩ := hl
  refine (World.putObj_heap_other ?_).trans ho
  rintro rfl
  rw [ho'] at ho
  cases ho
  rw [hk'] at hk
  cases hk⟩
/-- what hangs on blocks of cells alone -/
def StableC {β : Type} (n : Nat) (I : β → World → Prop) : Prop := ∀ s A B, I s A → SameC n A B → I s B
/-- what new memory does not change -/
def StableB {β : Type} (J : β → World → Prop) : Prop := ∀ s A B, J s A → Below A.heap.size A B → J s B
variable {F : Fence} {n : Nat} {P : Program}
/-- An iterator's contract: it asks of each round that the blocks that Pr names lie as they lay; it writes nothing old. -/
def SeqC {α : Type} (F : Fence) (n : Nat) (P : Program) (g : Nat) (lb : Array Value) (encs : α → Array Value) (Pr : Nat → Prop) (S Sp : List α → Prop) (N : Nat) (w0 : World) : Prop :=
  ∀ (l : Nat) (J Jx : List α → World → Prop) (W : World), Same Pr w0 W → StableB J → StableB Jx →
    (∀ pre x W1, J pre W1 → pre.length < N → YieldAt F (n - 1) P l (encs x) W1 fun e W' =>
      (e = .returned (.bool true) ∧ J (pre ++ [x]) W' ∧ Same Pr W1 W') ∨ (e = .returned (.bool false) ∧ Jx (pre ++ [x]) W')) →
    J [] W →
    CallsIn F n P g (#[.func (.yield l) #[] #[]] ++ lb) W fun e W' => (∃ v, e = .returned v) ∧ ((∃ xs, S xs ∧ J xs W') ∨ (∃ pre, Sp pre ∧ Jx pre W'))

/-- how the body of a round may be left -/
def postC {α : Type} (N0 : Nat) (Pr : Nat → Prop) (I : List α → World → Prop) (Ix : Code → List α → World → Prop) (xs : List α) (W : World) : Exit → Act → World → Prop
  | .normal, _, W' => Same (fun b => Pr b ∨ b = N0 ∨ b = N0 + 1) W W' ∧ I xs W'
  | .ret, _, W' => Same (fun b => b = N0 ∨ b = N0 + 1) W W' ∧ Ix .ret xs W'
  | .exit id, _, W' => Same (fun b => b = N0 ∨ b = N0 + 1) W W' ∧ Ix (.exit id) xs W'
  | .goto t, _, W' => Same (fun b => b = N0 ∨ b = N0 + 1) W W' ∧ Ix (.goto t) xs W'
  | .panic _, _, _ => False
  | .outgrown, _, _ => False

theorem wpIn_rangeFunc_C {α : Type} {g : Operand} {ps : Array Tmp} {assign body : Code} {Q : Exit → Act → World → Prop} {a : Act} {w : World}
    (hro : F.round = none) (h1 : 1 ≤ n) {gf : Nat} {lb : Array Value} (hg : a.eval g = .func (.func gf) #[] lb) (hFg : F.fn gf) (eg : ∀ args w, (callFunc gf args).run P w = .ok (.enter gf args) w)
    {encs : α → Array Value} {Pr : Nat → Prop} {S Sp : List α → Prop} {N : Nat} {w0 : World} (hseq : SeqC F (n - 1) P gf lb encs Pr S Sp N w0) (hb0 : Same Pr w0 w) (hPr : ∀ k, Pr k → k < w.heap.size) (hps : ∀ x, (encs x).size = ps.size)
    (I : List α → World → Prop) (Ix : Code → List α → World → Prop) (hI : StableC w.heap.size I) (hIx : ∀ c, StableC w.heap.size (Ix c)) (h0 : I [] w) (Ax : List α → α → Act → World → Prop)
    (hAx : ∀ pre x a' A l o, w.heap.size ≤ l → (∃ o', A.heap[l]? = some o' ∧ o'.isCells = false) → Ax pre x a' A → Ax pre x a' (A.putObj l o))
    (hassign : ∀ (l : Nat) (pre : List α) (x : α) (W : World) (K : Act → World → Prop), w.heap.size ≤ l → l < W.heap.size → I pre W → pre.length < N → (∀ a' W', Same (fun b => Pr b ∨ b = w.heap.size ∨ b = w.heap.size + 1) W W' → Ax pre x a' W' → K a' W') →
      assign.wpIn (F.inRound l) (n - 1 - 1) P (Exit.then K (fun _ _ _ => False)) { tmps := (ps.zip (encs x)).foldl (fun t (p, v) => t.setIfInBounds p v) a.tmps, defers := [] } W)
    (hbody : ∀ (l : Nat) (pre : List α) (x : α) (a' : Act) (W : World), w.heap.size ≤ l → (∃ r, W.heap[l]? = some (.loop r)) → Ax pre x a' W → pre.length < N → body.wpIn (F.inRound l) (n - 1 - 1) P (postC w.heap.size Pr I Ix (pre ++ [x]) W) a' W)
    (hdone : ∀ (D : Nat) (xs : List α) (W : World), w.heap.size ≤ D → S xs → I xs W → W.heap[D]? = some (.deferred (some [])) → Q .normal { a with defers := { target := .collected D, args := #[] } :: a.defers } W)
    (hstop : ∀ (D : Nat) (c : Code) (pre : List α) (W : World), w.heap.size ≤ D → Sp pre → Ix c pre W → W.heap[D]? = some (.deferred (some [])) → c.wpIn F n P Q { a with defers := { target := .collected D, args := #[] } :: a.defers } W) :
    (Code.rangeFunc g ps assign body).wpIn F n P Q a w := by
  refine wpIn_rangeFunc ?_
  intro fn hfn
  rw [hro]
  obtain ⟨rec, hrec⟩ : ∃ rec : LoopState → Option Code → Loop, rec = fun st pe => { state := st, pending := pe, fn, tmps := a.tmps, params := ps, assign, body, defers := w.heap.size } := ⟨_, rfl⟩
  obtain ⟨W1, hW1⟩ : ∃ W1, (w.alloc (.deferred (some []))).alloc (.loop (rec .ready none)) = W1 := ⟨_, rfl⟩
  have hs1 : W1.heap.size = w.heap.size + 2 := by rw [← hW1]; simp
  have hL1 : W1.heap[w.heap.size + 1]? = some (.loop (rec .ready none)) := by
    rw [← hW1]; have := World.alloc_heap_new (w.alloc (.deferred (some []))) (.loop (rec .ready none)); rwa [World.size_alloc] at this
  have hK1 : W1.heap[w.heap.size]? = some (.deferred (some [])) := by
    rw [← hW1]; exact (Below.heap_alloc _ _ _ (by simp)).trans (World.alloc_heap_new w _)
  have hw1 : ∀ q : Nat → Prop, Same q w W1 := fun q => by rw [← hW1]; exact ((Same.refl q w).alloc _).alloc _
  have hI1 : I [] W1 := hI _ _ _ h0 (.of_below (by rw [← hW1]; exact ((Below.refl _ _).alloc (Nat.le_refl _) _).alloc (by simp) _))
  have hb1 : Same Pr w0 W1 := hb0.trans (hw1 _)
  refine ⟨w.heap.size + 1, [{ target := .collected w.heap.size, args := #[] }], W1, { target := .fn (.func gf) lb, args := #[.func (.yield (w.heap.size + 1)) #[] #[]] }, W1, gf,
    #[.func (.yield (w.heap.size + 1)) #[] #[]] ++ lb, W1, ?_, ?_, ?_, ?_, fun _ => h1, ?_⟩
  · rw [← hW1, hrec]; exact run_enterLoop_outer _ _ _ _ _
  · simp only [resolve, hg]
    simp [go_sem]
  · intro f' hf'; simp [Target.leads] at hf'; subst hf'; exact hFg
  · simp [invoke, go_sem, eg]
  · have hblk : ∀ {A B : World} {k : Nat} {o : Obj}, A.heap[k]? = some o → Below A.heap.size A B → B.heap[k]? = some o := fun hk hs => (hs.block _ (Array.getElem?_eq_some_iff.1 hk).1).trans hk
    refine (hseq (w.heap.size + 1)
      (fun pre W => I pre W ∧ W.heap[w.heap.size + 1]? = some (.loop (rec .ready none)) ∧ W.heap[w.heap.size]? = some (.deferred (some [])))
      (fun pre W => ∃ c, Ix c pre W ∧ W.heap[w.heap.size + 1]? = some (.loop (rec .done (some c))) ∧ W.heap[w.heap.size]? = some (.deferred (some [])))
      W1 hb1
      (fun s A B hs hg' => ⟨hI s A B hs.1 (.of_below hg'), hblk hs.2.1 hg', hblk hs.2.2 hg'⟩)
      (fun s A B hs hg' => by
        obtain ⟨c, hc, hl, hk⟩ := hs
        exact ⟨c, hIx c s A B hc (.of_below hg'), hblk hl hg', hblk hk hg'⟩)
      ?_ ⟨hI1, hL1, hK1⟩).mono ?_
    · rintro pre x W ⟨hi, hl, hk⟩ hlen
      have hlt : w.heap.size + 1 < W.heap.size := (Array.getElem?_eq_some_iff.1 hl).1
      have hy := run_yield (P := P) (args := encs x) hl (by rw [hrec]; exact hps x)
      rw [hrec] at hy
      refine ⟨fn, _, assign, body, hy, roundIn_of_wpIn hfn (hassign _ pre x W _ (by omega) hlt hi hlen ?_)⟩
      clear hy
      intro a' Wa hsa hax
      replace hl := (hsa.block _ hlt (.inr (.inr rfl))).trans hl
      replace hk := (hsa.block _ (by omega) (.inr (.inl rfl))).trans hk
      replace hlt : w.heap.size + 1 < Wa.heap.size := (Array.getElem?_eq_some_iff.1 hl).1
      revert hsa
      generalize W = Wb
      intro hsa
      obtain ⟨W, rfl⟩ : ∃ W, W = Wa := ⟨_, rfl⟩
      refine ⟨_, run_beginRound hl (by rw [hrec]), ?_⟩
      have hl2 : (W.putObj (w.heap.size + 1) (.loop { rec .ready none with state := .busy })).heap[w.heap.size + 1]? = some (.loop { rec .ready none with state := .busy }) := World.putObj_heap_same hlt
      have hk2 : (W.putObj (w.heap.size + 1) (.loop { rec .ready none with state := .busy })).heap[w.heap.size]? = some (.deferred (some [])) := (World.putObj_heap_other (by omega)).trans hk
      have hw2 : Same Pr W (W.putObj (w.heap.size + 1) (.loop { rec .ready none with state := .busy })) :=
        (Same.refl _ _).putObj (fun h => by have := hPr _ h; omega) _
      refine wpIn_mono (hbody _ pre x a' _ (by omega) ⟨_, hl2⟩ (hAx pre x a' _ _ _ (by omega) ⟨_, hl, rfl⟩ hax) hlen) ?_
      have fin : ∀ (jump : Option Code) (W3 : World), Same (fun b => b = w.heap.size ∨ b = w.heap.size + 1) (W.putObj (w.heap.size + 1) (.loop { rec .ready none with state := .busy })) W3 →
          (Instr.endRound (w.heap.size + 1) jump).run P W3 = .ok (.bool jump.isNone) (W3.putObj (w.heap.size + 1) (.loop (rec (if jump.isNone then .ready else .done) jump))) ∧
          (W3.putObj (w.heap.size + 1) (.loop (rec (if jump.isNone then .ready else .done) jump))).heap[w.heap.size + 1]? = some (.loop (rec (if jump.isNone then .ready else .done) jump)) ∧
          (W3.putObj (w.heap.size + 1) (.loop (rec (if jump.isNone then .ready else .done) jump))).heap[w.heap.size]? = some (.deferred (some [])) ∧ SameC w.heap.size W3 (W3.putObj (w.heap.size + 1) (.loop (rec (if jump.isNone then .ready else .done) jump))) := fun jump W3 hk3 => by
        have hl3 := (hk3.block _ (by simp; omega) (.inr rfl)).trans hl2
        have := run_endRound (P := P) jump hl3
        rw [hrec] at this ⊢
        exact ⟨this, World.putObj_heap_same (Array.getElem?_eq_some_iff.1 hl3).1, (World.putObj_heap_other (by omega)).trans ((hk3.block _ (by simp; omega) (.inl rfl)).trans hk2), .of_put ⟨_, hl3, rfl⟩ (by omega) _⟩
      rintro e a3 W3 hp
      cases e with
      | normal =>
        obtain ⟨hk3, hi3⟩ := hp
        obtain ⟨hr, hl4, hk4, hc4⟩ := fin none W3 (hk3.mono fun k _ h => .inr h)
        refine ⟨_, _, hr, .inl ⟨rfl, ⟨hI _ _ _ hi3 hc4, hl4, hk4⟩, ?_⟩⟩
        exact (hsa.mono fun k _ h => .inl h).trans (hw2.trans ((hk3.mono fun k _ h => .inl h).trans ((Same.refl _ _).putObj (fun h => by have := hPr _ h; omega) _)))
      | ret =>
        obtain ⟨hk3, hi3⟩ := hp
        obtain ⟨hr, hl4, hk4, hc4⟩ := fin (some .ret) W3 hk3
        exact ⟨_, _, hr, .inr ⟨rfl, .ret, hIx _ _ _ _ hi3 hc4, hl4, hk4⟩⟩
      | exit id =>
        obtain ⟨hk3, hi3⟩ := hp
        obtain ⟨hr, hl4, hk4, hc4⟩ := fin (some (.exit id)) W3 hk3
        exact ⟨_, _, hr, .inr ⟨rfl, .exit id, hIx _ _ _ _ hi3 hc4, hl4, hk4⟩⟩
      | goto t =>
        obtain ⟨hk3, hi3⟩ := hp
        obtain ⟨hr, hl4, hk4, hc4⟩ := fin (some (.goto t)) W3 hk3
        exact ⟨_, _, hr, .inr ⟨rfl, .goto t, hIx _ _ _ _ hi3 hc4, hl4, hk4⟩⟩
      | panic ch => exact hp.elim
      | outgrown => exact hp.elim
    · rintro e W2 ⟨⟨v, rfl⟩, (⟨xs, hS, hi, hl, hk⟩ | ⟨pre, hSp, c, hi, hl, hk⟩)⟩
      · exact ⟨none, _, by have := run_endLoop (P := P) hl (by rw [hrec]; simp); rw [hrec] at this; exact this, hdone _ xs _ (Nat.le_refl _) hS (hI _ _ _ hi (.of_put ⟨_, hl, rfl⟩ (by omega) _)) ((World.putObj_heap_other (by omega)).trans hk)⟩
      · exact ⟨some c, _, by have := run_endLoop (P := P) hl (by rw [hrec]; simp); rw [hrec] at this; exact this, hstop _ c pre _ (Nat.le_refl _) hSp (hIx c _ _ _ hi (.of_put ⟨_, hl, rfl⟩ (by omega) _)) ((World.putObj_heap_other (by omega)).trans hk)⟩

end Go.Proofs.YtlofopnjjeeehaaDoor.Bn
namespace Go.Proofs.YtlofopnjjeeehaaDoor.Bn
open Go.RowKit
section
variable {P : Program}
/-- rows of two types are two blocks -/
theorem owns_other {w w' : World} {base e1 e2 s1 s2 n1 n2 : Nat} {v1 v2 : Value} {xs1 xs2 : List Value} (h1 : w.ownsRow base e1 s1 v1 n1 xs1) (h2 : w.ownsRow base e2 s2 v2 n2 xs2) (hne : e1 ≠ e2) (hg : w.grownBy w' v1.ownBlock) : w'.ownsRow base e2 s2 v2 n2 xs2 := by
  refine h2.kept hg ?_
  rcases h2.2 with ⟨rfl, _⟩ | ⟨g2, c2, cur2, rfl, hb2, hg2, _⟩
  · exact .inl rfl
  · rcases h1.2 with ⟨rfl, _⟩ | ⟨g1, c1, cur1, rfl, hb1, hg1, _⟩
    · right; simp [Value.ownBlock]
    · right
      simp only [Value.ownBlock, ne_eq, Option.some.injEq]
      intro e
      rw [e] at hg2
      rw [hg1] at hg2
      simp at hg2
      exact hne hg2.2
theorem wp_append_gen {o : Oper} {a : Act} {w : World} {K : Act → World → Prop} {Q : Exit → Act → World → Prop} (s x : Operand) (t : TypeId)
    (ho : o.op = .call { callee := .builtin .append, args := #[s, x], argTypes := #[t, t] })
    (base : Nat) (e : TypeId) (i : TypeInfo) (z : Value) (size bytes : Nat) (ht : P.underlying t = some (.slice e)) (hi : P.info? e = some i) (hz : i.zero = some z)
    (hsize : i.size = size) (hby : i.bytes = bytes) (hzs : z.cells.size = size) (hsz : 0 < size)
    (v : Value) (n : Nat) (xs : List Value) (hs : a.eval s = v) (hown : w.ownsRow base e size v n xs)
    (oa : Option Addr) (m c : Nat) (news : List Value) (hx : a.eval x = .slice oa m c) (hnil : oa = none → m = 0 ∧ c = 0) (hl : news.length = m * size) (hnews : ∀ ad, oa = some ad → ∀ j u, news[j]? = some u → w.cell? (ad.add j) = some u) (h1 : ∀ u ∈ news, u.oneCell' = true)
    (h63 : n + m ≤ maxLen) (hbytes : (n + m) * bytes ≤ 140737488355328) (hbase : base ≤ w.heap.size)
    (h : ∀ v' w', w'.ownsRow base e size v' (n + m) (xs ++ news) → w.grownBy w' v.ownBlock → K (a.put o.dst v') w') : o.wp P a w K Q := by
  cases oa with
  | none =>
    obtain ⟨rfl, rfl⟩ := hnil rfl
    have hrun := run_append_owned_none (P := P) (w := w) base t o.type e i size ht hi v n xs hown
    have e0 : news = [] := List.eq_nil_of_length_eq_zero (by omega)
    subst e0
    unfold Oper.wp
    simp [execOp, ho, resolve, invoke, builtin, hs, hx, hrun, Result.andThen]
    exact h v w (by simpa using hown) ⟨rfl, rfl, rfl, Nat.le_refl _, fun k _ _ => rfl⟩
  | some ad =>
    obtain ⟨v', w', hrun, hown', hgrow, -⟩ := run_append_own (P := P) (w := w) base t o.type e i z size bytes ht hi hz hsize hby hzs hsz v n xs hown ad m c news hl (hnews ad rfl) h1 h63 hbytes hbase
    unfold Oper.wp
    simp [execOp, ho, resolve, invoke, builtin, hs, hx, hrun, Result.andThen]
    exact h v' w' hown' hgrow
theorem step_append_gen {ops : Array Oper} {o : Oper} {a : Act} {w : World} {K : Act → World → Prop} {Q : Exit → Act → World → Prop} {E : Prop} (hgd : o.guard = none) (s x : Operand) (t : TypeId)
    (ho : o.op = .call { callee := .builtin .append, args := #[s, x], argTypes := #[t, t] })
    (base : Nat) (e : TypeId) (i : TypeInfo) (z : Value) (size bytes : Nat) (ht : P.underlying t = some (.slice e)) (hi : P.info? e = some i) (hz : i.zero = some z)
    (hsize : i.size = size) (hby : i.bytes = bytes) (hzs : z.cells.size = size) (hsz : 0 < size)
    (v : Value) (n : Nat) (xs : List Value) (hs : a.eval s = v) (oa : Option Addr) (m c : Nat) (news : List Value) (hx : a.eval x = .slice oa m c) (hown : w.ownsRow base e size v n xs)
    (hnil : oa = none → m = 0 ∧ c = 0) (hl : news.length = m * size) (hnews : ∀ ad, oa = some ad → ∀ j u, news[j]? = some u → w.cell? (ad.add j) = some u) (h1 : ∀ u ∈ news, u.oneCell' = true)
    (h63 : n + m ≤ maxLen) (hbytes : (n + m) * bytes ≤ 140737488355328) (hbase : base ≤ w.heap.size)
    (h : ∀ v' w', w'.ownsRow base e size v' (n + m) (xs ++ news) → w.grownBy w' v.ownBlock → K (a.put o.dst v') w') :
    if Region.wanted o (yielded ops a.tmps) = true then Oper.wp P o a w K Q else E := by
  have hw : Region.wanted o (yielded ops a.tmps) = true := by simp [Region.wanted, hgd]
  rw [if_pos hw]
  exact wp_append_gen s x t ho base e i z size bytes ht hi hz hsize hby hzs hsz v n xs hs hown oa m c news hx hnil hl hnews h1 h63 hbytes hbase h
theorem wpList_append_gen {ops : Array Oper} {rest : List Oper} {o : Oper} {a : Act} {w : World} {Q : Exit → Act → World → Prop} (hgd : o.guard = none) (s x : Operand) (t : TypeId)
    (ho : o.op = .call { callee := .builtin .append, args := #[s, x], argTypes := #[t, t] })
    (base : Nat) (e : TypeId) (i : TypeInfo) (z : Value) (size bytes : Nat) (ht : P.underlying t = some (.slice e)) (hi : P.info? e = some i) (hz : i.zero = some z)
    (hsize : i.size = size) (hby : i.bytes = bytes) (hzs : z.cells.size = size) (hsz : 0 < size)
    (v : Value) (n : Nat) (xs : List Value) (hs : a.eval s = v) (oa : Option Addr) (m c : Nat) (news : List Value) (hx : a.eval x = .slice oa m c) (hown : w.ownsRow base e size v n xs)
    (hnil : oa = none → m = 0 ∧ c = 0) (hl : news.length = m * size) (hnews : ∀ ad, oa = some ad → ∀ j u, news[j]? = some u → w.cell? (ad.add j) = some u) (h1 : ∀ u ∈ news, u.oneCell' = true)
    (h63 : n + m ≤ maxLen) (hbytes : (n + m) * bytes ≤ 140737488355328) (hbase : base ≤ w.heap.size)
    (h : ∀ v' w', w'.ownsRow base e size v' (n + m) (xs ++ news) → w.grownBy w' v.ownBlock → wpList P ops Q rest (a.put o.dst v') w') : wpList P ops Q (o :: rest) a w :=
  wpList_plain hgd fun _ hK => wp_append_gen s x t ho base e i z size bytes ht hi hz hsize hby hzs hsz v n xs hs hown oa m c news hx hnil hl hnews h1 h63 hbytes hbase fun v' w' h2 h3 => hK _ _ (h v' w' h2 h3)
end
theorem below_grown {w1 W W' : World} {v : Value} {e size n : Nat} {xs : List Value} (hb : Below w1.heap.size w1 W) (hown : W.ownsRow w1.heap.size e size v n xs) (hg : W.grownBy W' v.ownBlock) : Below w1.heap.size w1 W' := by
  refine ⟨hg.os.trans hb.os, hg.tape.trans hb.tape, hg.output.trans hb.output, Nat.le_trans hb.size hg.size, fun k hk => ?_⟩
  rw [hg.block k (Nat.lt_of_lt_of_le hk hb.size) (fun e => ?_)]
  · exact hb.block k hk
  · have := hown.lt k e.symm
    omega
/-- a slice that was just made, empty -/
theorem owns_empty {X : World} {base g e size : Nat} (hb : base ≤ g) (hg : X.heap[g]? = some (.cells #[] e)) : X.ownsRow base e size (.slice (some ⟨g, 0, none⟩) 0 0) 0 [] :=
  ⟨by simp, .inr ⟨g, 0, #[], rfl, hb, hg, Nat.le_refl _, Nat.zero_le _, by simp, by simp⟩⟩
theorem heap_new {W : World} {o : Obj} {g : Nat} (h : g = W.heap.size) : (W.alloc o).heap[g]? = some o := by
  subst h; exact World.alloc_heap_new W o
theorem heap_old {W : World} {o : Obj} {g : Nat} {q : Option Obj} (h : g < W.heap.size) (hq : W.heap[g]? = q) : (W.alloc o).heap[g]? = q := by
  rw [Below.heap_alloc _ _ _ h]; exact hq
theorem heap_grown {W W' : World} {v : Value} {g : Nat} {q : Option Obj} (hg : W.grownBy W' v.ownBlock) (h : g < W.heap.size) (hne : some g ≠ v.ownBlock) (hq : W.heap[g]? = q) : W'.heap[g]? = q := by
  rw [hg.block g h hne]; exact hq
theorem news_at {n : Nat} {f : Nat → Int} {j : Nat} {u : Value} (h : ((List.range n).map fun j => Value.int .i64 (f j))[j]? = some u) : j < n ∧ u = .int .i64 (f j) := by
  rw [List.getElem?_map] at h
  cases hj : (List.range n)[j]? with
  | none => rw [hj] at h; cases h
  | some k =>
    rw [hj] at h
    obtain ⟨hlt, e⟩ := List.getElem?_eq_some_iff.1 hj
    simp at hlt e
    subst e
    simp at h
    exact ⟨hlt, h.symm⟩
theorem add_flat {b off j : Nat} : (⟨b, off, none⟩ : Addr).add j = ⟨b, off + j, none⟩ := by
  unfold Addr.add
  split
  · rename_i h; subst h; rfl
  · rfl
theorem news_one {n : Nat} {f : Nat → Int} : ∀ u ∈ ((List.range n).map fun j => Value.int .i64 (f j)), u.oneCell' = true := fun u hu => by
  obtain ⟨j, _, rfl⟩ := List.mem_map.1 hu
  rfl
theorem owns_form {w : World} {base e size n : Nat} {v : Value} {xs : List Value} (h : w.ownsRow base e size v n xs) : ∃ oa cap, v = .slice oa n cap ∧ ∀ j u, xs[j]? = some u → ∃ g, oa = some ⟨g, 0, none⟩ ∧ g < w.heap.size ∧ w.cell? ⟨g, j, none⟩ = some u := by
  obtain ⟨hl, h⟩ := h
  rcases h with ⟨rfl, rfl⟩ | ⟨g, cap, cur, rfl, hb, hg, hn, hc, hcs, hx⟩
  · exact ⟨none, 0, rfl, fun j u hu => by
      have : xs = [] := List.eq_nil_of_length_eq_zero (by omega)
      subst this; cases hu⟩
  · refine ⟨_, cap, rfl, fun j u hu => ⟨g, rfl, ?_, ?_⟩⟩
    · rcases Nat.lt_or_ge g w.heap.size with h1 | h1
      · exact h1
      · rw [Array.getElem?_eq_none h1] at hg; cases hg
    · rw [cell_of_row w g j cur e (0, 0) hg]
      rw [← hx, List.getElem?_take] at hu
      split at hu
      · simpa using hu
      · cases hu
theorem news_get {n : Nat} {f : Nat → Int} {j : Nat} (hj : j < n) : ((List.range n).map fun j => Value.int .i64 (f j))[j]? = some (.int .i64 (f j)) := by
  rw [List.getElem?_map, List.getElem?_range hj]; rfl
/-- nothing has changed but block g, as far as blocks stood before -/
structure But (g : Nat) (w w' : World) : Prop where
  os : w'.os = w.os
  tape : w'.tape = w.tape
  output : w'.output = w.output
  size : w.heap.size ≤ w'.heap.size
  block : ∀ k, k < w.heap.size → k ≠ g → w'.heap[k]? = w.heap[k]?
theorem But.below {g B : Nat} {w0 w w' : World} (h : But g w w') (hg : B ≤ g) (hb : Below B w0 w) (hB : B ≤ w.heap.size) : Below B w0 w' :=
  ⟨h.os.trans hb.os, h.tape.trans hb.tape, h.output.trans hb.output, Nat.le_trans hb.size h.size, fun k hk => (h.block k (by omega) (by omega)).trans (hb.block k hk)⟩
theorem But.of_below {g : Nat} {w w' : World} (h : Below w.heap.size w w') : But g w w' := ⟨h.os, h.tape, h.output, h.size, fun k hk _ => h.block k hk⟩
theorem But.trans_below {g : Nat} {w w' w'' : World} (h : But g w w') (k : Below w'.heap.size w' w'') : But g w w'' :=
  ⟨k.os.trans h.os, k.tape.trans h.tape, k.output.trans h.output, Nat.le_trans h.size k.size, fun i hi hne => (k.block i (Nat.lt_of_lt_of_le hi h.size)).trans (h.block i hi hne)⟩
theorem But.setCell {g : Nat} {w w' : World} (h : But g w w') (i : Nat) (v : Value) : But g w (w'.setCell ⟨g, i, none⟩ v) :=
  ⟨h.os, h.tape, h.output, by simpa using h.size, fun k hk hne => (Below.heap_setCell w' ⟨g, i, none⟩ v k hne).trans (h.block k hk hne)⟩
theorem But.refl (g : Nat) (w : World) : But g w w := ⟨rfl, rfl, rfl, Nat.le_refl _, fun _ _ _ => rfl⟩
theorem But.drew {g : Nat} {w w' : World} (h : But g w w') : But g w w'.drew := ⟨h.os, h.tape, h.output, h.size, h.block⟩
theorem But.alloc {g : Nat} {w w' : World} (h : But g w w') (o : Obj) : But g w (w'.alloc o) := h.trans_below (below_alloc1 w' o)
theorem But.trans {g : Nat} {w w' w'' : World} (h : But g w w') (k : But g w' w'') : But g w w'' :=
  ⟨k.os.trans h.os, k.tape.trans h.tape, k.output.trans h.output, Nat.le_trans h.size k.size, fun i hi hne => (k.block i (Nat.lt_of_lt_of_le hi h.size) hne).trans (h.block i hi hne)⟩
theorem But.cell {g n i : Nat} {w w' : World} (h : But g w w') (hn : n < w.heap.size) (hne : n ≠ g) : w'.cell? ⟨n, i, none⟩ = w.cell? ⟨n, i, none⟩ := World.cell?_of_block (h.block n hn hne)
theorem owns_base {w : World} {base e size n : Nat} {oa : Option Addr} {cap : Nat} {xs : List Value} (h : w.ownsRow base e size (.slice oa n cap) n xs) (a : Addr) (ha : oa = some a) : base ≤ a.block := by
  subst ha
  obtain ⟨hl, h⟩ := h
  rcases h with ⟨h0, _⟩ | ⟨g, cap', cur, h0, hb, _⟩
  · cases h0
  · cases h0; exact hb
theorem news_blk2 {W : World} {g e : Nat} {x y u : Value} {j : Nat} (h : W.heap[g]? = some (.cells #[x, y] e (0, 0))) (hu : [x, y][j]? = some u) : W.cell? ((⟨g, 0, none⟩ : Addr).add j) = some u := by
  rw [add_flat, Nat.zero_add, cell_of_row W g j _ e (0, 0) h]
  simpa using hu
theorem cell_same {W W' : World} {g i : Nat} (h : W'.heap[g]? = W.heap[g]?) : W'.cell? ⟨g, i, none⟩ = W.cell? ⟨g, i, none⟩ := World.cell?_of_block h
theorem But.grown {g : Nat} {w W W' : World} {v : Value} {e size n : Nat} {xs : List Value} (h : But g w W) (hown : W.ownsRow w.heap.size e size v n xs) (hg : W.grownBy W' v.ownBlock) : But g w W' := by
  refine ⟨hg.os.trans h.os, hg.tape.trans h.tape, hg.output.trans h.output, Nat.le_trans h.size hg.size, fun k hk hne => ?_⟩
  rw [hg.block k (Nat.lt_of_lt_of_le hk h.size) (fun e9 => ?_)]
  · exact h.block k hk hne
  · have := hown.lt k e9.symm
    omega
theorem owns_set {w : World} {base e size n g i : Nat} {v u : Value} {xs : List Value} (h : w.ownsRow base e size v n xs) (hne : ∀ b, v.ownBlock = some b → b ≠ g) : (w.setCell ⟨g, i, none⟩ u).ownsRow base e size v n xs := by
  refine h.kept (row := some g) ⟨rfl, rfl, rfl, by simp, fun k _ hk => Below.heap_setCell w ⟨g, i, none⟩ u k (fun e9 => hk (by rw [show k = g from e9]))⟩ ?_
  rcases h.2 with ⟨rfl, _⟩ | ⟨g', c, cur, rfl, _⟩
  · exact .inl rfl
  · exact .inr (fun e9 => hne g' rfl (by simpa [Value.ownBlock] using e9))
theorem cell_set {W : World} {g i j : Nat} {v u : Value} (h : W.cell? ⟨g, i, none⟩ = some u) : (W.setCell ⟨g, i, none⟩ v).cell? ⟨g, j, none⟩ = if j = i then some v else W.cell? ⟨g, j, none⟩ := by
  split
  · rename_i e; subst e
    exact World.cell?_setCell_same W ⟨g, j, none⟩ v (by rw [h])
  · rename_i e
    exact World.cell?_setCell_other W _ _ v (fun h => e (by injection h with _ h2 _; exact h2.symm))
theorem But.box {g g' : Nat} {cs : Array Value} {t : TypeId} {w w' : World} (k : But g' w w') (h : Box g cs t w) (hne : g ≠ g') : Box g cs t w' := ⟨(k.block g h.lt hne).trans h.row⟩
/-- n pairs of integers lie in memory -/
def PairsAt (w : World) (oa : Option Addr) (n : Nat) (f g : Nat → Int) : Prop :=
  ∀ i, i < n → ∃ b off, oa = some ⟨b, off, none⟩ ∧ b < w.heap.size ∧ w.cell? ⟨b, off + i * 2, none⟩ = some (.int .i64 (f i)) ∧ w.cell? ⟨b, off + i * 2 + 1, none⟩ = some (.int .i64 (g i))
def pairNews (n : Nat) (f g : Nat → Int) : List Value := (List.range (n * 2)).map fun j => .int .i64 (if j % 2 = 0 then f (j / 2) else g (j / 2))
theorem pair_news_succ (n : Nat) (f g : Nat → Int) : pairNews (n + 1) f g = pairNews n f g ++ [.int .i64 (f n), .int .i64 (g n)] := by
  unfold pairNews
  rw [Nat.succ_mul, List.range_add, List.map_append]
  congr 1
  simp [List.range_succ_eq_map]
  rw [show (n * 2 + 1) / 2 = n by omega]
theorem pair_news_congr {n : Nat} {f g f' g' : Nat → Int} (h : ∀ i, i < n → f i = f' i ∧ g i = g' i) : pairNews n f g = pairNews n f' g' := by
  unfold pairNews
  refine List.map_congr_left fun j hj => ?_
  have := h (j / 2) (by have := List.mem_range.1 hj; omega)
  rw [this.1, this.2]
theorem owns_pairs {w : World} {base e n : Nat} {v : Value} {f g : Nat → Int} (h : w.ownsRow base e 2 v n (pairNews n f g)) : ∃ oa cap, v = .slice oa n cap ∧ PairsAt w oa n f g ∧ ∀ a, oa = some a → base ≤ a.block := by
  obtain ⟨oa, cap, rfl, hx⟩ := owns_form h
  refine ⟨oa, cap, rfl, fun i hi => ?_, owns_base h⟩
  have c0 := hx (i * 2) _ (news_get (by omega))
  have c1 := hx (i * 2 + 1) _ (news_get (by omega))
  obtain ⟨k, e, hk, h0⟩ := c0
  obtain ⟨k1, e1, _, h1⟩ := c1
  subst e
  cases e1
  rw [if_pos (by omega), show i * 2 / 2 = i by omega] at h0
  rw [if_neg (by omega), show (i * 2 + 1) / 2 = i by omega] at h1
  exact ⟨k, 0, rfl, hk, by rw [Nat.zero_add]; exact h0, by rw [Nat.zero_add]; exact h1⟩
/-- n integers lie in memory -/
def IntsAt (w : World) (oa : Option Addr) (n : Nat) (f : Nat → Int) : Prop :=
  ∀ i, i < n → ∃ b off, oa = some ⟨b, off, none⟩ ∧ b < w.heap.size ∧ w.cell? ⟨b, off + i, none⟩ = some (.int .i64 (f i))
theorem IntsAt.mono {w w' : World} {oa : Option Addr} {n : Nat} {f : Nat → Int} (h : IntsAt w oa n f) (hb : Below w.heap.size w w') : IntsAt w' oa n f := fun i hi => by
  obtain ⟨b, off, ha, hlt, h0⟩ := h i hi
  exact ⟨b, off, ha, Nat.lt_of_lt_of_le hlt hb.size, (hb.cell (p := ⟨b, off + i, none⟩) hlt).trans h0⟩
theorem PairsAt.mono {w w' : World} {oa : Option Addr} {n : Nat} {f g : Nat → Int} (h : PairsAt w oa n f g) (hb : Below w.heap.size w w') : PairsAt w' oa n f g := fun i hi => by
  obtain ⟨b, off, ha, hlt, h0, h1⟩ := h i hi
  exact ⟨b, off, ha, Nat.lt_of_lt_of_le hlt hb.size, (hb.cell (p := ⟨b, off + i * 2, none⟩) hlt).trans h0, (hb.cell (p := ⟨b, off + i * 2 + 1, none⟩) hlt).trans h1⟩
def intNews (n : Nat) (f : Nat → Int) : List Value := (List.range n).map fun j => .int .i64 (f j)
theorem int_news_succ (n : Nat) (f : Nat → Int) : intNews (n + 1) f = intNews n f ++ [.int .i64 (f n)] := by simp [intNews, List.range_succ]
theorem owns_ints {w : World} {base e n : Nat} {v : Value} {f : Nat → Int} (h : w.ownsRow base e 1 v n (intNews n f)) : ∃ oa cap, v = .slice oa n cap ∧ IntsAt w oa n f ∧ ∀ a, oa = some a → base ≤ a.block := by
  obtain ⟨oa, cap, rfl, hx⟩ := owns_form h
  refine ⟨oa, cap, rfl, fun i hi => ?_, owns_base h⟩
  obtain ⟨k, e, hk, h0⟩ := hx i _ (news_get hi)
  subst e
  exact ⟨k, 0, rfl, hk, by rw [Nat.zero_add]; exact h0⟩
theorem PairsAt.but {w w' : World} {oa : Option Addr} {n g : Nat} {f f' : Nat → Int} (h : PairsAt w oa n f f') (hb : ∀ a, oa = some a → a.block ≠ g) (k : But g w w') : PairsAt w' oa n f f' := fun i hi => by
  obtain ⟨b, off, rfl, hlt, h0, h1⟩ := h i hi
  have hne : b ≠ g := hb _ rfl
  exact ⟨b, off, rfl, Nat.lt_of_lt_of_le hlt k.size, (k.cell hlt hne).trans h0, (k.cell hlt hne).trans h1⟩
end Go.Proofs.YtlofopnjjeeehaaDoor.Bn
