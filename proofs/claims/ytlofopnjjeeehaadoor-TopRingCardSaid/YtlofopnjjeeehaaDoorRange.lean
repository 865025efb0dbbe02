/- A range over a function, for an iterator that keeps state of its own in blocks of its own, and a body that writes blocks of the caller's own. 'Same p A B': from A to B each block of A that p names lies as it lay. Turned from the library's law wpIn_rangeFunc_ownH. -/
import Derived.RangeFuncNested
import Derived.RangeFuncBound
import Derived.RangeFuncCalls
import Derived.RangeFuncLeaves
import Derived.WalkKit
import Derived.Deep.Draws
namespace Go.Proofs.YtlofopnjjeeehaaDoor
open Go.RowKit
structure Same (p : Nat → Prop) (A B : World) : Prop where
  os : B.os = A.os
  tape : B.tape = A.tape
  output : B.output = A.output
  size : A.heap.size ≤ B.heap.size
  block : ∀ k, k < A.heap.size → p k → B.heap[k]? = A.heap[k]?
theorem Same.refl (p : Nat → Prop) (A : World) : Same p A A := ⟨rfl, rfl, rfl, Nat.le_refl _, fun _ _ _ => rfl⟩
theorem Same.trans {p : Nat → Prop} {A B C : World} (h : Same p A B) (k : Same p B C) : Same p A C :=
  ⟨k.os.trans h.os, k.tape.trans h.tape, k.output.trans h.output, Nat.le_trans h.size k.size, fun i hi hp => (k.block i (Nat.lt_of_lt_of_le hi h.size) hp).trans (h.block i hi hp)⟩
theorem Same.mono {p q : Nat → Prop} {A B : World} (h : Same p A B) (hq : ∀ k, k < A.heap.size → q k → p k) : Same q A B :=
  ⟨h.os, h.tape, h.output, h.size, fun i hi hp => h.block i hi (hq i hi hp)⟩
theorem Same.alloc {p : Nat → Prop} {A B : World} (h : Same p A B) (o : Obj) : Same p A (B.alloc o) :=
  ⟨h.os, h.tape, h.output, Nat.le_trans h.size (by simp), fun i hi hp => (Below.heap_alloc B o i (Nat.lt_of_lt_of_le hi h.size)).trans (h.block i hi hp)⟩
theorem Same.setCell {p : Nat → Prop} {A B : World} (h : Same p A B) {a : Addr} (ha : p a.block → A.heap.size ≤ a.block) (u : Value) : Same p A (B.setCell a u) :=
  ⟨h.os, h.tape, h.output, by simpa [World.setCell] using h.size, fun i hi hp => (Below.heap_setCell B a u i (by rintro rfl; have := ha hp; omega)).trans (h.block i hi hp)⟩
theorem Same.drew {p : Nat → Prop} {A B : World} (h : Same p A B) : Same p A B.drew := ⟨h.os, h.tape, h.output, h.size, h.block⟩
theorem Same.drewN {p : Nat → Prop} {A B : World} (h : Same p A B) (n : Nat) : Same p A (B.drewN n) := ⟨h.os, h.tape, h.output, h.size, h.block⟩
theorem Same.putObj {p : Nat → Prop} {A B : World} (h : Same p A B) {l : Nat} (hl : p l → A.heap.size ≤ l) (o : Obj) : Same p A (B.putObj l o) :=
  ⟨h.os, h.tape, h.output, by simpa using h.size, fun i hi hp => (World.putObj_heap_other (by rintro rfl; have := hl hp; omega)).trans (h.block i hi hp)⟩
theorem Same.below {p : Nat → Prop} {A B : World} (h : Same p A B) {n : Nat} (hn : n ≤ A.heap.size) (hp : ∀ k, k < n → p k) : Below n A B :=
  ⟨h.os, h.tape, h.output, h.size, fun k hk => h.block k (Nat.lt_of_lt_of_le hk hn) (hp k hk)⟩
theorem Same.of_below {p : Nat → Prop} {A B : World} {n : Nat} (h : Below n A B) (hp : ∀ k, k < A.heap.size → p k → k < n) : Same p A B :=
  ⟨h.os, h.tape, h.output, h.size, fun k hk hp' => h.block k (hp k hk hp')⟩
theorem Same.of_grownBy {p : Nat → Prop} {A B : World} {row : Option Nat} (h : A.grownBy B row) (hr : ∀ k, row = some k → p k → A.heap.size ≤ k) : Same p A B :=
  ⟨h.os, h.tape, h.output, h.size, fun k hk hp => h.block k hk (fun e => by have := hr k e.symm hp; omega)⟩
theorem Same.cell {p : Nat → Prop} {A B : World} (h : Same p A B) {a : Addr} (ha : a.block < A.heap.size) (hp : p a.block) : B.cell? a = A.cell? a := World.cell?_of_block (w := A) (h.block a.block ha hp)
theorem Same.frozen {p : Nat → Prop} {A B : World} (h : Same p A B) {a : Addr} (ha : a.block < A.heap.size) (hp : p a.block) : B.frozen? a = A.frozen? a := World.frozen?_of_block (w := A) (h.block a.block ha hp)

theorem Same.cell_some {p : Nat → Prop} {A B : World} (h : Same p A B) {a : Addr} {v : Value} (hc : A.cell? a = some v) (hp : p a.block) : B.cell? a = some v := by
  obtain ⟨o, ho, _⟩ := cells_of_cell hc
  exact (h.cell (Array.getElem?_eq_some_iff.1 ho).1 hp).trans hc
theorem Same.frozen_some {p : Nat → Prop} {A B : World} (h : Same p A B) {a : Addr} {v : Value} {f : Bool} (hc : A.cell? a = some v) (hf : A.frozen? a = f) (hp : p a.block) : B.frozen? a = f := by
  obtain ⟨o, ho, _⟩ := cells_of_cell hc
  exact (h.frozen (Array.getElem?_eq_some_iff.1 ho).1 hp).trans hf
theorem lt_of_cell {A : World} {a : Addr} {v : Value} (hc : A.cell? a = some v) : a.block < A.heap.size := by
  obtain ⟨o, ho, _⟩ := cells_of_cell hc
  exact (Array.getElem?_eq_some_iff.1 ho).1
theorem cell_putObj {A : World} {a : Addr} {v : Value} {l : Nat} (hc : A.cell? a = some v) (hl : ∃ o' : Obj, A.heap[l]? = some o' ∧ o'.isCells = false) (o : Obj) : (A.putObj l o).cell? a = some v := by
  obtain ⟨o1, ho1, hk1⟩ := cells_of_cell hc
  obtain ⟨o', ho', hk'⟩ := hl
  refine (World.cell?_of_block (w := A) (World.putObj_heap_other ?_)).trans hc
  rintro e
  rw [e, ho'] at ho1
  cases ho1
  rw [hk'] at hk1
  cases hk1
theorem frozen_putObj {A : World} {a : Addr} {v : Value} {l : Nat} {f : Bool} (hc : A.cell? a = some v) (hf : A.frozen? a = f) (hl : ∃ o' : Obj, A.heap[l]? = some o' ∧ o'.isCells = false) (o : Obj) : (A.putObj l o).frozen? a = f := by
  obtain ⟨o1, ho1, hk1⟩ := cells_of_cell hc
  obtain ⟨o', ho', hk'⟩ := hl
  refine (World.frozen?_of_block (w := A) (World.putObj_heap_other ?_)).trans hf
  rintro e
  rw [e, ho'] at ho1
  cases ho1
  rw [hk'] at hk1
  cases hk1

/-- what speaks of blocks below n alone -/
def Stable {β : Type} (n : Nat) (I : β → World → Prop) : Prop := ∀ s A B, I s A → Same (· < n) A B → I s B

variable {F : Fence} {n : Nat} {P : Program}

/-- An iterator's contract: it asks of each round that the blocks that Pr names, and its own, lie as they lay. -/
def SeqB {α : Type} (F : Fence) (n : Nat) (P : Program) (g : Nat) (lb : Array Value) (encs : α → Array Value) (Pr : Nat → Prop) (S Sp : List α → Prop) (N : Nat) (w0 : World) : Prop :=
  ∀ (l : Nat) (J Jx : List α → World → Prop) (W : World), Same Pr w0 W → Stable W.heap.size J → Stable W.heap.size Jx →
    (∀ pre x W1, J pre W1 → pre.length < N → YieldAt F (n - 1) P l (encs x) W1 fun e W' =>
      (e = .returned (.bool true) ∧ J (pre ++ [x]) W' ∧ Same (fun b => Pr b ∨ W.heap.size ≤ b) W1 W') ∨ (e = .returned (.bool false) ∧ Jx (pre ++ [x]) W')) →
    J [] W →
    CallsIn F n P g (#[.func (.yield l) #[] #[]] ++ lb) W fun e W' => (∃ v, e = .returned v) ∧ ((∃ xs, S xs ∧ J xs W') ∨ (∃ pre, Sp pre ∧ Jx pre W'))

/-- how the body of a round may be left -/
def postB {α : Type} (N0 : Nat) (Pr : Nat → Prop) (I : List α → World → Prop) (Ix : Code → List α → World → Prop) (xs : List α) (W : World) : Exit → Act → World → Prop
  | .normal, _, W' => Same (fun b => Pr b ∨ N0 ≤ b) W W' ∧ I xs W'
  | .ret, _, W' => Same (N0 ≤ ·) W W' ∧ Ix .ret xs W'
  | .exit id, _, W' => Same (N0 ≤ ·) W W' ∧ Ix (.exit id) xs W'
  | .goto t, _, W' => Same (N0 ≤ ·) W W' ∧ Ix (.goto t) xs W'
  | .panic _, _, _ => False
  | .outgrown, _, _ => False

theorem wpIn_rangeFunc_B {α : Type} {g : Operand} {ps : Array Tmp} {assign body : Code} {Q : Exit → Act → World → Prop} {a : Act} {w : World}
    (hro : F.round = none) (h1 : 1 ≤ n) {gf : Nat} {lb : Array Value} (hg : a.eval g = .func (.func gf) #[] lb) (hFg : F.fn gf) (eg : ∀ args w, (callFunc gf args).run P w = .ok (.enter gf args) w)
    {encs : α → Array Value} {Pr : Nat → Prop} {S Sp : List α → Prop} {N : Nat} {w0 : World} (hseq : SeqB F (n - 1) P gf lb encs Pr S Sp N w0) (hb0 : Same Pr w0 w) (hPr : ∀ k, Pr k → k < w.heap.size) (hps : ∀ x, (encs x).size = ps.size)
    (I : List α → World → Prop) (Ix : Code → List α → World → Prop) (hI : Stable w.heap.size I) (hIx : ∀ c, Stable w.heap.size (Ix c)) (h0 : I [] w) (Ax : List α → α → Act → World → Prop)
    (hAx : ∀ pre x a' A l o, w.heap.size ≤ l → (∃ o', A.heap[l]? = some o' ∧ o'.isCells = false) → Ax pre x a' A → Ax pre x a' (A.putObj l o))
    (hassign : ∀ (l : Nat) (pre : List α) (x : α) (W : World) (K : Act → World → Prop), w.heap.size ≤ l → l < W.heap.size → I pre W → pre.length < N → (∀ a' W', Same (fun b => Pr b ∨ w.heap.size ≤ b) W W' → Ax pre x a' W' → K a' W') →
      assign.wpIn (F.inRound l) (n - 1 - 1) P (Exit.then K (fun _ _ _ => False)) { tmps := (ps.zip (encs x)).foldl (fun t (p, v) => t.setIfInBounds p v) a.tmps, defers := [] } W)
    (hbody : ∀ (l : Nat) (pre : List α) (x : α) (a' : Act) (W : World), w.heap.size ≤ l → (∃ r, W.heap[l]? = some (.loop r)) → Ax pre x a' W → pre.length < N → body.wpIn (F.inRound l) (n - 1 - 1) P (postB w.heap.size Pr I Ix (pre ++ [x]) W) a' W)
    (hdone : ∀ (D : Nat) (xs : List α) (W : World), w.heap.size ≤ D → S xs → I xs W → W.heap[D]? = some (.deferred (some [])) → Q .normal { a with defers := { target := .collected D, args := #[] } :: a.defers } W)
    (hstop : ∀ (D : Nat) (c : Code) (pre : List α) (W : World), w.heap.size ≤ D → Sp pre → Ix c pre W → W.heap[D]? = some (.deferred (some [])) → c.wpIn F n P Q { a with defers := { target := .collected D, args := #[] } :: a.defers } W) :
    (Code.rangeFunc g ps assign body).wpIn F n P Q a w := by
  refine wpIn_rangeFunc ?_
  intro fn hfn
  rw [hro]
  obtain ⟨rec, hrec⟩ : ∃ rec : LoopState → Option Code → Loop, rec = fun st pe => { state := st, pending := pe, fn, tmps := a.tmps, params := ps, assign, body, defers := w.heap.size } := ⟨_, rfl⟩
  obtain ⟨W1, hW1⟩ : ∃ W1, (w.alloc (.deferred (some []))).alloc (.loop (rec .ready none)) = W1 := ⟨_, rfl⟩
  have hs1 : W1.heap.size = w.heap.size + 2 := by rw [← hW1]; simp
  have hL1 : W1.heap[w.heap.size + 1]? = some (.loop (rec .ready none)) := by
    rw [← hW1]; have := World.alloc_heap_new (w.alloc (.deferred (some []))) (.loop (rec .ready none)); rwa [World.size_alloc] at this
  have hK1 : W1.heap[w.heap.size]? = some (.deferred (some [])) := by
    rw [← hW1]; exact (Below.heap_alloc _ _ _ (by simp)).trans (World.alloc_heap_new w _)
  have hw1 : ∀ q : Nat → Prop, Same q w W1 := fun q => by rw [← hW1]; exact ((Same.refl q w).alloc _).alloc _
  have hI1 : I [] W1 := hI _ _ _ h0 (hw1 _)
  have hb1 : Same Pr w0 W1 := hb0.trans (hw1 _)
  refine ⟨w.heap.size + 1, [{ target := .collected w.heap.size, args := #[] }], W1, { target := .fn (.func gf) lb, args := #[.func (.yield (w.heap.size + 1)) #[] #[]] }, W1, gf,
    #[.func (.yield (w.heap.size + 1)) #[] #[]] ++ lb, W1, ?_, ?_, ?_, ?_, fun _ => h1, ?_⟩
  · rw [← hW1, hrec]; exact run_enterLoop_outer _ _ _ _ _
  · simp only [resolve, hg]
    simp [go_sem]
  · intro f' hf'; simp [Target.leads] at hf'; subst hf'; exact hFg
  · simp [invoke, go_sem, eg]
  · have hblk : ∀ {A B : World} {k : Nat} {o : Obj}, A.heap[k]? = some o → k < w.heap.size + 2 → Same (· < W1.heap.size) A B → B.heap[k]? = some o := fun hk hlt hs => by
      have hka := (Array.getElem?_eq_some_iff.1 hk).1
      exact (hs.block _ hka (by rw [hs1]; exact hlt)).trans hk
    refine (hseq (w.heap.size + 1)
      (fun pre W => I pre W ∧ W.heap[w.heap.size + 1]? = some (.loop (rec .ready none)) ∧ W.heap[w.heap.size]? = some (.deferred (some [])))
      (fun pre W => ∃ c, Ix c pre W ∧ W.heap[w.heap.size + 1]? = some (.loop (rec .done (some c))) ∧ W.heap[w.heap.size]? = some (.deferred (some [])))
      W1 hb1
      (fun s A B hs hg' => ⟨hI s A B hs.1 (hg'.mono fun k _ hk => by omega), hblk hs.2.1 (by omega) hg', hblk hs.2.2 (by omega) hg'⟩)
      (fun s A B hs hg' => by
        obtain ⟨c, hc, hl, hk⟩ := hs
        exact ⟨c, hIx c s A B hc (hg'.mono fun k _ hk => by omega), hblk hl (by omega) hg', hblk hk (by omega) hg'⟩)
      ?_ ⟨hI1, hL1, hK1⟩).mono ?_
    · rintro pre x W ⟨hi, hl, hk⟩ hlen
      have hlt : w.heap.size + 1 < W.heap.size := (Array.getElem?_eq_some_iff.1 hl).1
      have hy := run_yield (P := P) (args := encs x) hl (by rw [hrec]; exact hps x)
      rw [hrec] at hy
      refine ⟨fn, _, assign, body, hy, roundIn_of_wpIn hfn (hassign _ pre x W _ (by omega) hlt hi hlen ?_)⟩
      clear hy
      intro a' Wa hsa hax
      replace hl := (hsa.block _ hlt (.inr (by omega))).trans hl
      replace hk := (hsa.block _ (by omega) (.inr (Nat.le_refl _))).trans hk
      replace hlt : w.heap.size + 1 < Wa.heap.size := (Array.getElem?_eq_some_iff.1 hl).1
      revert hsa
      generalize W = Wb
      intro hsa
      obtain ⟨W, rfl⟩ : ∃ W, W = Wa := ⟨_, rfl⟩
      refine ⟨_, run_beginRound hl (by rw [hrec]), ?_⟩
      have hl2 : (W.putObj (w.heap.size + 1) (.loop { rec .ready none with state := .busy })).heap[w.heap.size + 1]? = some (.loop { rec .ready none with state := .busy }) := World.putObj_heap_same hlt
      have hk2 : (W.putObj (w.heap.size + 1) (.loop { rec .ready none with state := .busy })).heap[w.heap.size]? = some (.deferred (some [])) := (World.putObj_heap_other (by omega)).trans hk
      have hw2 : Same (fun b => Pr b ∨ W1.heap.size ≤ b) W (W.putObj (w.heap.size + 1) (.loop { rec .ready none with state := .busy })) :=
        (Same.refl _ _).putObj (fun h => by
          rcases h with h | h
          · have := hPr _ h; omega
          · omega) _
      refine wpIn_mono (hbody _ pre x a' _ (by omega) ⟨_, hl2⟩ (hAx pre x a' _ _ _ (by omega) ⟨_, hl, rfl⟩ hax) hlen) ?_
      have fin : ∀ (jump : Option Code) (W3 : World), Same (w.heap.size ≤ ·) (W.putObj (w.heap.size + 1) (.loop { rec .ready none with state := .busy })) W3 →
          (Instr.endRound (w.heap.size + 1) jump).run P W3 = .ok (.bool jump.isNone) (W3.putObj (w.heap.size + 1) (.loop (rec (if jump.isNone then .ready else .done) jump))) ∧
          (W3.putObj (w.heap.size + 1) (.loop (rec (if jump.isNone then .ready else .done) jump))).heap[w.heap.size + 1]? = some (.loop (rec (if jump.isNone then .ready else .done) jump)) ∧
          (W3.putObj (w.heap.size + 1) (.loop (rec (if jump.isNone then .ready else .done) jump))).heap[w.heap.size]? = some (.deferred (some [])) := fun jump W3 hk3 => by
        have hl3 := (hk3.block _ (by simp; omega) (by omega)).trans hl2
        have := run_endRound (P := P) jump hl3
        rw [hrec] at this ⊢
        exact ⟨this, World.putObj_heap_same (Array.getElem?_eq_some_iff.1 hl3).1, (World.putObj_heap_other (by omega)).trans ((hk3.block _ (by simp; omega) (Nat.le_refl _)).trans hk2)⟩
      have hput : ∀ (W3 : World) (o : Obj) (q : Nat → Prop), (∀ k, q k → k < w.heap.size) → Same q W3 (W3.putObj (w.heap.size + 1) o) := fun W3 o q hq => (Same.refl _ _).putObj (fun h => by have := hq _ h; omega) _
      rintro e a3 W3 hp
      cases e with
      | normal =>
        obtain ⟨hk3, hi3⟩ := hp
        obtain ⟨hr, hl4, hk4⟩ := fin none W3 (hk3.mono fun k _ h => .inr h)
        refine ⟨_, _, hr, .inl ⟨rfl, ⟨hI _ _ _ hi3 (hput _ _ _ fun k h => h), hl4, hk4⟩, ?_⟩⟩
        refine (hsa.mono fun k _ h => h.imp id (by omega)).trans (hw2.trans ((hk3.mono fun k _ h => h.imp id (by omega)).trans ((Same.refl _ _).putObj (fun h => ?_) _)))
        rcases h with h | h
        · have := hPr _ h; omega
        · omega
      | ret =>
        obtain ⟨hk3, hi3⟩ := hp
        obtain ⟨hr, hl4, hk4⟩ := fin (some .ret) W3 hk3
        exact ⟨_, _, hr, .inr ⟨rfl, .ret, hIx _ _ _ _ hi3 (hput _ _ _ fun k h => h), hl4, hk4⟩⟩
      | exit id =>
        obtain ⟨hk3, hi3⟩ := hp
        obtain ⟨hr, hl4, hk4⟩ := fin (some (.exit id)) W3 hk3
        exact ⟨_, _, hr, .inr ⟨rfl, .exit id, hIx _ _ _ _ hi3 (hput _ _ _ fun k h => h), hl4, hk4⟩⟩
      | goto t =>
        obtain ⟨hk3, hi3⟩ := hp
        obtain ⟨hr, hl4, hk4⟩ := fin (some (.goto t)) W3 hk3
        exact ⟨_, _, hr, .inr ⟨rfl, .goto t, hIx _ _ _ _ hi3 (hput _ _ _ fun k h => h), hl4, hk4⟩⟩
      | panic ch => exact hp.elim
      | outgrown => exact hp.elim
    · rintro e W2 ⟨⟨v, rfl⟩, (⟨xs, hS, hi, hl, hk⟩ | ⟨pre, hSp, c, hi, hl, hk⟩)⟩
      · exact ⟨none, _, by have := run_endLoop (P := P) hl (by rw [hrec]; simp); rw [hrec] at this; exact this, hdone _ xs _ (Nat.le_refl _) hS (hI _ _ _ hi ((Same.refl _ _).putObj (by omega) _)) ((World.putObj_heap_other (by omega)).trans hk)⟩
      · exact ⟨some c, _, by have := run_endLoop (P := P) hl (by rw [hrec]; simp); rw [hrec] at this; exact this, hstop _ c pre _ (Nat.le_refl _) hSp (hIx c _ _ _ hi ((Same.refl _ _).putObj (by omega) _)) ((World.putObj_heap_other (by omega)).trans hk)⟩

/-! A function that holds such a loop: its contract from its body, and its ways out. -/
theorem calls_of_wp_marks {f : FuncId} {fn : Func} {c : Code} {args : Array Value} {w : World} {R : Ending → World → Prop}
    (hf : P.funcs[f]? = some fn) (hb : fn.body = some c)
    (h : c.wp P (bodyPostM Fence.wide 8 P fn R) { tmps := args ++ Array.replicate (fn.ntmps - args.size) undef, defers := [] } w) : Calls P f args w R :=
  callsIn_wide.1 (callsIn_of_wp_marks (n := 8) hf hb trivial (wpIn_wide.2 h))
theorem leave_mark {fn : Func} {R : Ending → World → Prop} {tmps : Array Value} {W : World} {D : Nat} {v : Value} {e : Exit} (he : e = .ret ∨ e = .normal) (hK : W.heap[D]? = some (.deferred (some [])))
    (hv : (results fn tmps).run P (W.putObj D (.deferred none)) = .ok v (W.putObj D (.deferred none))) (hR : R (.returned v) (W.putObj D (.deferred none))) :
    bodyPostM Fence.wide 8 P fn R e { tmps, defers := [{ target := .collected D, args := #[] }] } W := by
  rcases he with rfl | rfl
  · exact ⟨by simp, .inl ⟨_, _, rfl, run_takeDeferred hK, ⟨_, hv, hR⟩⟩⟩
  · exact ⟨by simp, .inl ⟨_, _, rfl, run_takeDeferred hK, ⟨_, hv, hR⟩⟩⟩
theorem leave_plain {fn : Func} {R : Ending → World → Prop} {tmps : Array Value} {W : World} {v : Value} {e : Exit} (he : e = .ret ∨ e = .normal) (hv : (results fn tmps).run P W = .ok v W) (hR : R (.returned v) W) :
    bodyPostM Fence.wide 8 P fn R e { tmps, defers := [] } W := by
  rcases he with rfl | rfl
  · exact ⟨_, hv, hR⟩
  · exact ⟨_, hv, hR⟩
end Go.Proofs.YtlofopnjjeeehaaDoor
