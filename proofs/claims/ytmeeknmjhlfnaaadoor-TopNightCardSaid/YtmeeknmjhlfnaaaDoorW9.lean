/- How many streets of a set are not shut in a step, and which the last one is. -/
import Derived.Test.YtmeeknmjhlfnaaaDoorW8
namespace Go.Proofs.YtmeeknmjhlfnaaaDoor
open Go.RowKit
/-- how many of these streets are not shut, and the place of the last of them -/
def opSt (sh : Nat) (l : List Nat) : Nat × Nat := (l.foldl (fun (a : Nat × Nat × Nat) s => (a.1 + 1, if hasB sh s then a.2 else (a.2.1 + 1, a.1))) (0, 0, 0)).2
theorem op_fst (sh : Nat) (l : List Nat) : (l.foldl (fun (a : Nat × Nat × Nat) s => (a.1 + 1, if hasB sh s then a.2 else (a.2.1 + 1, a.1))) (0, 0, 0)).1 = l.length := by
  have key : ∀ (l : List Nat) (a : Nat × Nat × Nat), (l.foldl (fun (a : Nat × Nat × Nat) s => (a.1 + 1, if hasB sh s then a.2 else (a.2.1 + 1, a.1))) a).1 = a.1 + l.length := fun l => by
    induction l with
    | nil => intro a; rfl
    | cons s l ih => intro a; rw [List.foldl_cons, ih]; simp; omega
  rw [key]; simp
theorem opSt_snoc (sh : Nat) (l : List Nat) (s : Nat) : opSt sh (l ++ [s]) = if hasB sh s then opSt sh l else ((opSt sh l).1 + 1, l.length) := by
  unfold opSt
  rw [List.foldl_append, List.foldl_cons, List.foldl_nil, op_fst]
theorem opSt_le (sh : Nat) (l : List Nat) : (opSt sh l).1 ≤ l.length ∧ (opSt sh l).2 ≤ l.length := by
  have key : ∀ k (l : List Nat), l.length = k → (opSt sh l).1 ≤ k ∧ (opSt sh l).2 ≤ k := fun k => by
    induction k with
    | zero => intro l hl; rw [List.eq_nil_of_length_eq_zero hl]; exact ⟨Nat.le_refl _, Nat.le_refl _⟩
    | succ k ih =>
      intro l hl
      have hne : l ≠ [] := fun h => by rw [h] at hl; cases hl
      have e := (List.dropLast_concat_getLast hne).symm
      have h2 : l.dropLast.length = k := by rw [List.length_dropLast]; omega
      rw [e, opSt_snoc]
      have := ih _ h2
      split
      · omega
      · dsimp only; omega
  exact key _ l rfl
/-- the boxes of a step -/
structure OpB (B g8 g9 g10 : Nat) (r : Stp) (o q : Nat) (w W : World) : Prop where
  low : Below B w W
  h8 : Box g8 #[.int .i64 r.shut, .int .i64 r.flow.lo, .int .i64 r.flow.hi] 75 W
  h9 : Box g9 #[.int .i64 (o : Nat)] 3 W
  h10 : Box g10 #[.int .i64 (q : Nat)] 3 W
set_option maxHeartbeats 4000000 in
theorem opn_any (B g8 g9 g10 : Nat) (r : Stp) (p s o q : Nat) (w W : World) (h : OpB B g8 g9 g10 r o q w W) (h0 : 0 ≤ r.shut) (h1 : r.shut.toNat < 1024) (hs : s < 10) (ho : o ≤ 100) (hB9 : B ≤ g9) (hB10 : B ≤ g10) (n1 : g8 ≠ g9) (n2 : g8 ≠ g10) (n3 : g9 ≠ g10) :
    Calls Tryd.prog 30 #[.int .i64 (p : Nat), .int .i64 (s : Nat), .pointer (some ⟨g8, 0, none⟩), .pointer (some ⟨g9, 0, none⟩), .pointer (some ⟨g10, 0, none⟩)] W fun e W' => (∃ v, e = .returned v) ∧ OpB B g8 g9 g10 r (if hasB r.shut.toNat s then o else o + 1) (if hasB r.shut.toNat s then q else p) w W' := by
  have HH := Lib.hid h
  have hbit := bit_zero (i := s) h0 h1
  have c0 := h.h8.cell 0 (v := .int .i64 r.shut) rfl
  have c1 := h.h9.cell 0 (v := .int .i64 (o : Nat)) rfl
  have c2 := h.h10.cell 0 (v := .int .i64 (q : Nat)) rfl
  have c3 := h.h8.lt
  have c4 := h.h9.lt
  have c5 := h.h10.lt
  have c6 := h.h9.frozen 0
  have c7 := h.h10.frozen 0
  clear h
  go_enter Tryd.func30, Tryd.ntmps30
  cases hh : hasB r.shut.toNat s
  · rw [hh] at hbit
    have hbit : (bits BinOp.and IntKind.i64 (r.shut / 2 ^ s) 1 == 0) = true := hbit
    go_wp2_with fail
    first | go_end0 | skip
    refine ⟨⟨_, rfl⟩, ?_⟩
    show OpB B g8 g9 g10 r (o + 1) p w _
    have ec : ((o + 1 : Nat) : Int) = (o : Int) + 1 := rfl
    have k1 := (Only.refl g9 W).setCell 0 (.int .i64 ((o : Int) + 1))
    have k2 := (Only.refl g10 (W.setCell ⟨g9, 0, none⟩ (.int .i64 ((o : Int) + 1)))).setCell 0 (.int .i64 (p : Nat))
    refine ⟨(HH.out.low.trans (k1.below hB9)).trans (k2.below hB10), k2.box (k1.box HH.out.h8 n1) n2, ?_, ?_⟩
    rw [ec]
    exact k2.box (HH.out.h9.set 0 (.int .i64 ((o : Int) + 1))) n3
    exact (k1.box HH.out.h10 (Ne.symm n3)).set 0 (.int .i64 (p : Nat))
  · rw [hh] at hbit
    have hbit : (bits BinOp.and IntKind.i64 (r.shut / 2 ^ s) 1 == 0) = false := hbit
    go_wp2_with fail
    first | go_end0 | skip
    exact ⟨⟨_, rfl⟩, HH.out⟩
set_option maxHeartbeats 4000000 in
theorem openOf_any (x : Nat) (hx : x < 1024) (B g8 g9 g10 : Nat) (r : Stp) (w W : World) (h : OpB B g8 g9 g10 r 0 0 w W) (h0 : 0 ≤ r.shut) (h1 : r.shut.toNat < 1024) (hB9 : B ≤ g9) (hB10 : B ≤ g10) (n1 : g8 ≠ g9) (n2 : g8 ≠ g10) (n3 : g9 ≠ g10) (hB1 : 1 < B) (hT : TabAt 1 Lib.deBruijn64tab w) :
    Calls Tryd.prog 26 #[.int .i64 x, .func (.func 30) #[] #[.pointer (some ⟨g8, 0, none⟩), .pointer (some ⟨g9, 0, none⟩), .pointer (some ⟨g10, 0, none⟩)]] W fun e W' => (∃ v, e = .returned v) ∧ OpB B g8 g9 g10 r (opSt r.shut.toNat (stL x)).1 (opSt r.shut.toNat (stL x)).2 w W' := by
  refine streetsOf_any x hx 30 _ (enters_of Tryd.func30 (by kernel_rfl) rfl) (fun pre W' => OpB B g8 g9 g10 r (opSt r.shut.toNat pre).1 (opSt r.shut.toNat pre).2 w W') W (fun pre W' hI j hj => (hI.low.cell (p := ⟨1, j, none⟩) hB1).trans (hT j hj)) h ?_
  intro pre s rest W' hsp hI
  have hm : s ∈ stL x := by rw [hsp]; simp
  have hl : (stL x).length ≤ 10 := st_len x
  rw [hsp] at hl
  simp at hl
  have ho := opSt_le r.shut.toNat pre
  refine (opn_any B g8 g9 g10 r pre.length s (opSt r.shut.toNat pre).1 (opSt r.shut.toNat pre).2 w W' hI h0 h1 (st_mem hm) (by omega) hB9 hB10 n1 n2 n3).mono ?_
  rintro e W2 ⟨hv, hI2⟩
  refine ⟨hv, ?_⟩
  rw [opSt_snoc]
  cases hh : hasB r.shut.toNat s <;> rw [hh] at hI2 <;> exact hI2
end Go.Proofs.YtmeeknmjhlfnaaaDoor
