/- Zone: rise. -/
import Derived.Test.YtipnaeijbbbdoaaRange4
import Derived.Test.YtipnaeijbbbdoaaP1
import Derived.Shelf.Abstract
namespace Go.Proofs.Ytipnaeijbbbdoaa
open Go.RowKit
attribute [local go_sem] Oper.semAt_some
/-- a town in memory: its zones, and the losses that are known -/
abbrev towC (s : Value) (T : Nat → Spn) : Array Value := #[s, .int .i64 (T 0).lo, .int .i64 (T 0).hi, .int .i64 (T 1).lo, .int .i64 (T 1).hi, .int .i64 (T 2).lo, .int .i64 (T 2).hi, .int .i64 (T 3).lo, .int .i64 (T 3).hi, .int .i64 (T 4).lo, .int .i64 (T 4).hi, .int .i64 (T 5).lo, .int .i64 (T 5).hi, .int .i64 (T 6).lo, .int .i64 (T 6).hi, .int .i64 (T 7).lo, .int .i64 (T 7).hi, .int .i64 (T 8).lo, .int .i64 (T 8).hi, .int .i64 (T 9).lo, .int .i64 (T 9).hi, .int .i64 (T 10).lo, .int .i64 (T 10).hi, .int .i64 (T 11).lo, .int .i64 (T 11).hi]
def upd (T : Nat → Spn) (i : Nat) (s : Spn) : Nat → Spn := fun j => if j = i then s else T j
theorem towC_lo {s : Value} {T : Nat → Spn} {i : Nat} (h : i < 12) : (towC s T)[1 + i * 2]? = some (.int .i64 (T i).lo) := by
  rcases i with _|_|_|_|_|_|_|_|_|_|_|_|i <;> first | rfl | omega
theorem towC_hi {s : Value} {T : Nat → Spn} {i : Nat} (h : i < 12) : (towC s T)[1 + i * 2 + 1]? = some (.int .i64 (T i).hi) := by
  rcases i with _|_|_|_|_|_|_|_|_|_|_|_|i <;> first | rfl | omega
theorem towC_set {s : Value} {T : Nat → Spn} {i : Nat} (h : i < 12) (x : Spn) : setA (towC s T) (1 + i * 2) [.int .i64 x.lo, .int .i64 x.hi] = towC s (upd T i x) := by
  rcases i with _|_|_|_|_|_|_|_|_|_|_|_|i <;> first | rfl | omega
/-- what rise leaves -/
def RiseP (oa : Option Addr) (n ca : Nat) (z : Nat → Zon) (gt i : Nat) (T : Nat → Spn) (W : World) (e : Ending) (w' : World) : Prop :=
  ∃ T', Box gt (towC (.slice oa n ca) T') 66 w' ∧ Same (· ≠ gt) W w' ∧
    ((e = .returned (S z n i).val ∧ (rs z n i).isSome = true ∧ (∀ j, j < n → Und z i j → T' j = S z n j) ∧ (∀ j, ¬ Und z i j → T' j = T j)) ∨ (e = .panicked misfit ∧ rs z n i = none))
theorem wp_only_normal {P : Program} {c : Code} {Q : Exit → Act → World → Prop} {a : Act} {w : World} (h : c.wp P (fun e a w => match e with | .normal => Q .normal a w | _ => False) a w) : c.wp P Q a w :=
  Code.wp_mono (fun e a w h => by cases e <;> first | exact h | exact h.elim) h
/-- the losses of some zones, as cells -/
def spL (z : Nat → Zon) (n : Nat) (l : List Nat) : List Value := spanNews l.length (fun j => S z n (l.getD j 0))
theorem spL_snoc (z : Nat → Zon) (n : Nat) (l : List Nat) (x : Nat) : spL z n l ++ [.int .i64 (S z n x).lo, .int .i64 (S z n x).hi] = spL z n (l ++ [x]) := by
  unfold spL spanNews
  rw [List.length_append, List.length_singleton, pair_news_succ]
  have e1 : (l ++ [x]).getD l.length 0 = x := by simp [List.getD_eq_getElem?_getD]
  simp only []
  rw [e1, pair_news_congr (f := fun j => (S z n ((l ++ [x]).getD j 0)).lo) (g := fun j => (S z n ((l ++ [x]).getD j 0)).hi) fun i hi => by
    have e2 : (l ++ [x]).getD i 0 = l.getD i 0 := by rw [List.getD_eq_getElem?_getD, List.getD_eq_getElem?_getD, List.getElem?_append_left hi]
    rw [e2]; exact ⟨rfl, rfl⟩]
theorem owns_sameP {p : Nat → Prop} {A B : World} {base e size n : Nat} {v : Value} {xs : List Value} (h : A.ownsRow base e size v n xs) (hs : Same p A B) (hp : ∀ k, base ≤ k → p k) : B.ownsRow base e size v n xs := by
  obtain ⟨hl, h⟩ := h
  refine ⟨hl, h.imp id ?_⟩
  rintro ⟨g, cap, cur, h0, h1, h2, h3⟩
  exact ⟨g, cap, cur, h0, h1, (hs.block g (Array.getElem?_eq_some_iff.1 h2).1 (hp g h1)).trans h2, h3⟩
theorem owns_sameC {A B : World} {m base e size n : Nat} {v : Value} {xs : List Value} (h : A.ownsRow base e size v n xs) (hs : SameC m A B) : B.ownsRow base e size v n xs := by
  obtain ⟨hl, h⟩ := h
  refine ⟨hl, h.imp id ?_⟩
  rintro ⟨g, cap, cur, h0, h1, h2, h3⟩
  exact ⟨g, cap, cur, h0, h1, hs.block _ _ h2 rfl, h3⟩
/-- what the rounds of rise keep -/
structure RI (oa : Option Addr) (n ca : Nat) (z : Nat → Zon) (gt g6 : Nat) (T : Nat → Spn) (X : World) (pre : List Nat) (A : World) : Prop where
  row : ∃ v, Box g6 #[v] 24 A ∧ A.ownsRow (X.heap.size + 2) 41 2 v pre.length (spL z n pre)
  tow : ∃ T', Box gt (towC (.slice oa n ca) T') 66 A ∧ (∀ j, j < n → (∃ c ∈ pre, Und z c j) → T' j = S z n j) ∧ (∀ j, (∀ c ∈ pre, ¬ Und z c j) → T' j = T j)
  low : Same (fun b => b < X.heap.size ∧ b ≠ gt ∧ b ≠ g6) X A
  all : ∀ c ∈ pre, (rs z n c).isSome = true
theorem RI.same {oa : Option Addr} {n ca : Nat} {z : Nat → Zon} {gt g6 : Nat} {T : Nat → Spn} {X A B : World} {pre : List Nat} (h : RI oa n ca z gt g6 T X pre A) (hs : SameC X.heap.size A B) : RI oa n ca z gt g6 T X pre B := by
  obtain ⟨⟨v, hb, ho⟩, ⟨T', ht, h1, h2⟩, hl, ha⟩ := h
  exact ⟨⟨v, ⟨hs.block _ _ hb.row rfl⟩, owns_sameC ho hs⟩, ⟨T', ⟨hs.block _ _ ht.row rfl⟩, h1, h2⟩, hl.trans ⟨hs.os, hs.tape, hs.output, hs.size, fun k hk hp => hs.low k hp.1 hk⟩, ha⟩
/-- the frame of rise's rounds -/
abbrev rAct (gt i g2 g4 g5 g6 b off n ca g7 g8 : Nat) (zv sv : Value) (x : Nat) : Act := { tmps := List.toArray ((.pointer (some ⟨gt, 0, none⟩) : Value) :: .int .i64 i :: .pointer (some ⟨g2, 0, none⟩) :: undef :: .pointer (some ⟨g4, 0, none⟩) :: .pointer (some ⟨g5, 0, none⟩) :: .pointer (some ⟨g6, 0, none⟩) :: .int .i64 x :: undef :: undef :: .pointer (some ⟨gt, 0, none⟩) :: .pointer (some ⟨gt, 0, none⟩) :: .pointer (some ⟨gt, 0, none⟩) :: .slice (some ⟨b, off, none⟩) n ca :: .int .i64 i :: .pointer (some ⟨b, off + i * 9, none⟩) :: zv :: sv :: sv :: .pointer (some ⟨gt, 0, none⟩) :: .int .i64 i :: .func (.func 58) #[] #[.pointer (some ⟨g7, 0, none⟩), .pointer (some ⟨g8, 0, none⟩)] :: .int .i64 x :: undef :: undef :: undef :: undef :: undef :: undef :: undef :: undef :: undef :: undef :: undef :: undef :: undef :: undef :: undef :: undef :: undef :: undef :: undef :: undef :: undef :: undef :: undef :: undef :: undef :: []), defers := [] }
set_option maxRecDepth 100000 in
set_option maxHeartbeats 8000000 in
theorem rise_any (oa : Option Addr) (n ca : Nat) (z : Nat → Zon) (w : World) (gt : Nat) (hA : ZonsAt w oa n z) (hn : n ≤ 12) (hz : Tree z n) (hok : ∀ i, i < n → (z i).ok) (hg : w.heap.size ≤ gt) :
    ∀ (k i : Nat), i < n → n - i ≤ k → ∀ (T : Nat → Spn) (W : World), Below w.heap.size w W → Box gt (towC (.slice oa n ca) T) 66 W →
      Calls Try.prog 36 #[.pointer (some ⟨gt, 0, none⟩), .int .i64 i] W (RiseP oa n ca z gt i T W) := by
  intro k
  induction k with
  | zero => intro i hi h; omega
  | succ k ih =>
    intro i hi hk T W hlow hbx
    have IH := Lib.hid (show ∀ c, c ∈ kidsTo z i n → ∀ (T : Nat → Spn) (W : World), Below w.heap.size w W → Box gt (towC (.slice oa n ca) T) 66 W → Calls Try.prog 36 #[.pointer (some ⟨gt, 0, none⟩), .int .i64 c] W (RiseP oa n ca z gt c T W) from fun c hc => by
      have := kid_gt hz hc
      exact ih c (by omega) (by omega))
    have HA := Lib.hid hA
    have HZ := Lib.hid hz
    have HG := Lib.hid hg
    have HL := Lib.hid hlow
    have HBX := Lib.hid hbx
    have HOK := Lib.hid (hok i hi)
    have HOKA := Lib.hid hok
    have HOB := Lib.hid (fun (V : World) => ownOf_any (z i) V (hok i hi))
    have HND := Lib.hid (fun (V : World) => need_any (z i).own V)
    obtain ⟨b, off, hoa, hl, c0, c1, c2, c3, c4, c5, c6, c7, c8⟩ := (hA.mono hlow) i hi
    have HOA := Lib.hid hoa
    have ct := hbx.cell 0 (v := .slice oa n ca) rfl
    have lt := hbx.lt
    rw [hoa] at ct
    clear ih hA hz hg hlow hbx hok hoa hk
    refine calls_of_wpAt Try.func36 rfl ?_
    simp only [Try.ntmps36, List.size_toArray, List.length_cons, List.length_nil, Nat.reduceAdd, Nat.reduceSub, Array.replicate_succ, Array.replicate_zero, List.push_toArray, List.append_toArray, List.nil_append, List.cons_append]
    refine wpAt_seq (wpAt_wp ?_)
    go_wp2_with fail
    have hb0 := (below_alloc1 W (.cells #[.pointer (some ⟨gt, 0, none⟩)] 63)).alloc (by simp) (.cells #[.int .i64 0, .int .i64 0] 41)
    have hB := (Box.new (g := W.heap.size) #[.pointer (some ⟨gt, 0, none⟩)] 63 W rfl).old (.cells #[.int .i64 0, .int .i64 0] 41)
    have hS := Box.new (g := W.heap.size + 1) #[.int .i64 0, .int .i64 0] 41 (W.alloc (.cells #[.pointer (some ⟨gt, 0, none⟩)] 63)) (by simp)
    obtain ⟨X1, hX⟩ : ∃ X, X = (W.alloc (.cells #[.pointer (some ⟨gt, 0, none⟩)] 63)).alloc (.cells #[.int .i64 0, .int .i64 0] 41) := ⟨_, rfl⟩
    rw [← hX] at hb0 hB hS ⊢
    clear hX
    obtain ⟨g4, hg4⟩ : ∃ G, G = W.heap.size + 1 := ⟨_, rfl⟩
    obtain ⟨g2, hg2⟩ : ∃ G, G = W.heap.size := ⟨_, rfl⟩
    rw [← hg4] at hS ⊢
    rw [← hg2] at hB ⊢
    have HG2 := Lib.hid (show W.heap.size ≤ g2 ∧ W.heap.size ≤ g4 ∧ g2 ≠ g4 by omega)
    have HGT := Lib.hid (show gt < g2 ∧ gt < g4 by omega)
    have H2 := Lib.hid hB
    have H4 := Lib.hid hS
    have HLW := Lib.hid hb0
    clear hg2 hg4 hB hS c0 c1 c2 c3 c4 c5 c6 c7 c8 ct lt hl
    clear b off HOA
    obtain ⟨b, off, hoa, hl, c0, c1, c2, c3, c4, c5, c6, c7, c8⟩ := (HA.out.mono (HL.out.trans (hb0.mono HL.out.size))) i hi
    have HOA := Lib.hid hoa
    have ct := (HBX.out.below hb0).cell 0 (v := .slice oa n ca) rfl
    have lt := (HBX.out.below hb0).lt
    have c2b := H2.out.cell 0 (v := .pointer (some ⟨gt, 0, none⟩)) rfl
    rw [hoa] at ct
    clear hoa hb0
    have hi0 : (0 : Int) ≤ (i : Int) := by omega
    have hi1 : (i : Int) < (n : Int) := by omega
    refine wpAt_seq (wpAt_wp ?_)
    go_wp2_with fail
    refine (HOB.out _).mono ?_
    rintro e X2 ⟨rfl, hb2⟩
    go_wp2_with fail
    refine (HND.out _).mono ?_
    rintro e X3 ⟨hn3, hb3⟩
    have hb4 := hb2.trans (hb3.mono hb2.size)
    have HW3 := Lib.hid (HLW.out.trans (hb4.mono HLW.out.size))
    replace H2 := Lib.hid (H2.out.below hb4)
    replace H4 := Lib.hid (H4.out.below hb4)
    clear HLW hb2 hb3 hb4 c0 c1 c2 c3 c4 c5 c6 c7 c8 ct lt hl c2b X2
    rcases hn3 with ⟨hn3, rfl⟩ | ⟨hn3, rfl⟩
    · have hno : rs z n i = none := by
        rw [rs_eq HZ.out hi]; unfold upStep; rw [if_neg (by omega)]
      exact leave_plain_panic ⟨T, HBX.out.below HW3.out, Same.of_below HW3.out (fun _ h _ => h), .inr ⟨rfl, hno⟩⟩
    · have HN3 := Lib.hid hn3
      have HE := Lib.hid (rs_eq HZ.out hi)
      have HOI := Lib.hid (Zon.own_bd HOK.out)
      obtain ⟨o, ho⟩ : ∃ o, o = (z i).own := ⟨_, rfl⟩
      rw [← ho] at HN3 HE HOI ⊢
      clear HOB HND ho hn3
      obtain ⟨olo, ohi⟩ := o
      go_wp2_with fail
      generalize Value.agg #[Value.int IntKind.i64 (z i).i.lo, Value.int IntKind.i64 (z i).i.hi, Value.int IntKind.i64 (z i).m.lo, Value.int IntKind.i64 (z i).m.hi, Value.int IntKind.i64 (z i).e.lo, Value.int IntKind.i64 (z i).e.hi, Value.int IntKind.i64 (z i).l.lo, Value.int IntKind.i64 (z i).l.hi, Value.int IntKind.i64 (z i).p] = zv
      have hb1 := below_alloc1 X3 (.cells #[.int .i64 olo, .int .i64 ohi] 41)
      have hB := Box.new (g := X3.heap.size) #[.int .i64 olo, .int .i64 ohi] 41 X3 rfl
      obtain ⟨X4, hX⟩ : ∃ X, X = X3.alloc (.cells #[.int .i64 olo, .int .i64 ohi] 41) := ⟨_, rfl⟩
      rw [← hX] at hB hb1 ⊢
      clear hX
      obtain ⟨g5, hg5⟩ : ∃ G, G = X3.heap.size := ⟨_, rfl⟩
      rw [← hg5] at hB ⊢
      have HG5 := Lib.hid (show W.heap.size ≤ g5 ∧ g2 < g5 ∧ g4 < g5 by have := HW3.out.size; have := H2.out.lt; have := H4.out.lt; omega)
      have H5 := Lib.hid hB
      replace HW3 := Lib.hid (HW3.out.trans (hb1.mono HW3.out.size))
      replace H2 := Lib.hid (H2.out.below hb1)
      replace H4 := Lib.hid (H4.out.below hb1)
      clear hB hb1 hg5 X3
      refine wpAt_seq (wpAt_wp ?_)
      go_wp2_with fail
      have hb1 := below_alloc1 X4 (.cells #[.slice none 0 0] 24)
      have hB := Box.new (g := X4.heap.size) #[.slice none 0 0] 24 X4 rfl
      obtain ⟨X5, hX⟩ : ∃ X, X = X4.alloc (.cells #[.slice none 0 0] 24) := ⟨_, rfl⟩
      rw [← hX] at hB hb1 ⊢
      clear hX
      obtain ⟨g6, hg6⟩ : ∃ G, G = X4.heap.size := ⟨_, rfl⟩
      rw [← hg6] at hB ⊢
      have HG6 := Lib.hid (show W.heap.size ≤ g6 ∧ g2 < g6 ∧ g4 < g6 ∧ g5 < g6 by have := HW3.out.size; have := H2.out.lt; have := H4.out.lt; have := H5.out.lt; omega)
      have H6 := Lib.hid hB
      replace HW3 := Lib.hid (HW3.out.trans (hb1.mono HW3.out.size))
      replace H2 := Lib.hid (H2.out.below hb1)
      replace H4 := Lib.hid (H4.out.below hb1)
      replace H5 := Lib.hid (H5.out.below hb1)
      clear hB hb1 hg6 X4
      have c2b := H2.out.cell 0 (v := .pointer (some ⟨gt, 0, none⟩)) rfl
      refine wpAt_seq (wpAt_seq (wpAt_wp ?_))
      go_wp2_with fail
      refine (parts_any gt (i : Int) _).mono ?_
      rintro e X6 ⟨rfl, hX6⟩
      have hb1 := (below_alloc1 X5 (.cells #[.pointer (some ⟨gt, 0, none⟩)] 63)).alloc (by simp) (.cells #[.int .i64 i] 3)
      have hB7 := (Box.new (g := X5.heap.size) #[.pointer (some ⟨gt, 0, none⟩)] 63 X5 rfl).old (.cells #[.int .i64 i] 3)
      have hB8 := Box.new (g := X5.heap.size + 1) #[.int .i64 i] 3 (X5.alloc (.cells #[.pointer (some ⟨gt, 0, none⟩)] 63)) (by simp)
      rw [← hX6] at hb1 hB7 hB8
      clear hX6 c2b
      obtain ⟨g8, hg8⟩ : ∃ G, G = X5.heap.size + 1 := ⟨_, rfl⟩
      obtain ⟨g7, hg7⟩ : ∃ G, G = X5.heap.size := ⟨_, rfl⟩
      rw [← hg8] at hB8 ⊢
      rw [← hg7] at hB7 ⊢
      have HG7 := Lib.hid (show W.heap.size ≤ g7 ∧ g6 < g7 ∧ g7 < g8 by have := HW3.out.size; have := H6.out.lt; omega)
      replace HW3 := Lib.hid (HW3.out.trans (hb1.mono HW3.out.size))
      replace H2 := Lib.hid (H2.out.below hb1)
      replace H4 := Lib.hid (H4.out.below hb1)
      replace H5 := Lib.hid (H5.out.below hb1)
      replace H6 := Lib.hid (H6.out.below hb1)
      have H7 := Lib.hid hB7
      have H8 := Lib.hid hB8
      clear hb1 hB7 hB8 hg7 hg8 X5
      go_wp2_with fail
      obtain ⟨iR, hiR, hzR0, hzR1, hzR2⟩ := info_parts (P := Try.prog) (e := 41) (z := .agg #[.int .i64 0, .int .i64 0]) (size := 2) (bytes := 16) (by kernel_rfl)
      have HIR := Lib.hid hiR
      have HZR := Lib.hid (And.intro hzR0 (And.intro hzR1 hzR2))
      clear hiR hzR0 hzR1 hzR2
      have HNE := Lib.hid (show gt < g6 ∧ gt < X6.heap.size ∧ g6 < X6.heap.size ∧ g2 < X6.heap.size by
        have h1 := HGT.out
        have h2 := HG6.out
        have h3 := H6.out.lt
        omega)
      have HLX := Lib.hid (HL.out.trans (HW3.out.mono HL.out.size))
      have HSEQ := Lib.hid (parts_seq oa n ca z gt g7 g8 (i : Int) (towC (.slice oa n ca) T) (fun b => b < X6.heap.size ∧ b ≠ gt ∧ b ≠ g6) w X6 HA.out (by omega) (fun b hb => by
        have h1 := HG.out
        have h2 := HNE.out
        have h3 := HLX.out.size
        exact ⟨by omega, by omega, by omega⟩) (by
        have h1 := HG7.out
        have h2 := HNE.out
        have h3 := H8.out.lt
        exact ⟨by omega, by omega, by omega⟩) HLX.out H7.out H8.out (HBX.out.below HW3.out) rfl 7 (by omega))
      have HI0 := Lib.hid (show RI oa n ca z gt g6 T X6 [] X6 from ⟨⟨_, H6.out, owns_none⟩, ⟨T, HBX.out.below HW3.out, fun j _ h => by obtain ⟨c, hc, _⟩ := h; simp at hc, fun j _ => rfl⟩, Same.refl _ _, fun c hc => by simp at hc⟩)
      clear H6 H7 H8 HG7
      generalize hsv : Spn.val { lo := olo, hi := ohi } = sv
      clear hsv
      refine wpAt_block ?_
      refine wpAt_rangeFunc_Q (α := {c : Nat // c ∈ kidsTo z i n}) ⟨_, Try.func36⟩ (gf := 58) (lb := #[.pointer (some ⟨g7, 0, none⟩), .pointer (some ⟨g8, 0, none⟩)]) rfl (enters_of Try.func58 (by kernel_rfl) rfl)
        (SeqQP.sub HSEQ.out) (Below.refl _ _) (fun k hk => hk.1) (fun _ => rfl)
        (fun xs A => RI oa n ca z gt g6 T X6 (xs.map (fun c : {c : Nat // c ∈ kidsTo z i n} => c.val)) A) (fun _ _ _ => False) (fun ch _ A => ch = misfit ∧ rs z n i = none ∧ (∃ T', Box gt (towC (.slice oa n ca) T') 66 A) ∧ Same (fun b => b < X6.heap.size ∧ b ≠ gt ∧ b ≠ g6) X6 A)
        (fun s A X h hs => h.same hs) (fun c s A X h hs => h) HI0.out
        (fun pre x a' A => RI oa n ca z gt g6 T X6 (pre.map (fun c : {c : Nat // c ∈ kidsTo z i n} => c.val)) A ∧ a' = rAct gt i g2 g4 g5 g6 b off n ca g7 g8 zv sv x.val)
        (fun pre x a' A l o hl ho h => ⟨h.1.same (.of_put ho hl _), h.2⟩)
        ?assign ?body ?done ?stop ?pan
      case assign =>
        intro l pre x A K hl hlW hI hlen hK
        have HKK := Lib.hid hK
        clear hK
        gi_wp2
        exact HKK.out _ _ (Same.refl _ _) ⟨hI, rfl⟩
      case body =>
        rintro l pre x a' A hl ⟨rr, hrr⟩ ⟨hI, rfl⟩ hlen
        have hAS := (Array.getElem?_eq_some_iff.1 hrr).1
        subst hl
        obtain ⟨x, hx⟩ := x
        obtain ⟨PR, hPR⟩ : ∃ PR, PR = pre.map (fun c : {c : Nat // c ∈ kidsTo z i n} => c.val) := ⟨_, rfl⟩
        have hpl : pre.length = PR.length := by rw [hPR, List.length_map]
        have HPX := Lib.hid (show List.map (fun c : {c : Nat // c ∈ kidsTo z i n} => c.val) (pre ++ [(⟨x, hx⟩ : {c : Nat // c ∈ kidsTo z i n})]) = PR ++ [x] by rw [hPR]; simp)
        rw [← hPR] at hI
        rw [hpl] at hlen
        have HX := Lib.hid hx
        have HXN := Lib.hid (kid_gt HZ.out hx)
        have HZX := Lib.hid (fun (V : World) (T : Nat → Spn) (h1 : Below w.heap.size w V) (h2 : Box gt (towC (.slice oa n ca) T) 66 V) => IH.out x hx T V h1 h2)
        have hlen9 : PR.length ≤ 12 := by omega
        obtain ⟨⟨vL, hb6, hown⟩, ⟨T1, hbt, hT1, hT2⟩, hsm, hall⟩ := hI
        obtain ⟨oL, cL, rfl, -⟩ := owns_form hown
        have HT1 := Lib.hid hT1
        have HT2 := Lib.hid hT2
        have HALL := Lib.hid hall
        have HBT := Lib.hid hbt
        have HSM := Lib.hid hsm
        have HB6 := Lib.hid hb6
        have H2A := Lib.hid (show Box g2 #[.pointer (some ⟨gt, 0, none⟩)] 63 A from ⟨(hsm.block g2 HNE.out.2.2.2 ⟨HNE.out.2.2.2, by have := HGT.out; omega, by have := HG6.out; omega⟩).trans H2.out.row⟩)
        have HLA := Lib.hid (show ∀ V, Same (fun b => b < X6.heap.size ∧ b ≠ gt ∧ b ≠ g6) X6 V → Below w.heap.size w V from fun V hV => HLX.out.trans (hV.below HLX.out.size fun k hk => by
          have h1 := HG.out
          have h2 := HNE.out
          have h3 := HLX.out.size
          exact ⟨by omega, by omega, by omega⟩))
        clear hrr hpl hPR hT1 hT2 hall hbt hsm hb6 hi0 hi1
        unfold rAct
        refine wpIn_block ?_
        have hP0 : ∀ V V' : World, (Box g2 #[.pointer (some ⟨gt, 0, none⟩)] 63 V ∧ Box g6 #[.slice oL PR.length cL] 24 V) → Below V.heap.size V V' → (Box g2 #[.pointer (some ⟨gt, 0, none⟩)] 63 V' ∧ Box g6 #[.slice oL PR.length cL] 24 V') := fun V V' h1 h2 => ⟨h1.1.below h2, h1.2.below h2⟩
        have hP1 : ∀ V V' : World, g6 < V.heap.size → Below V.heap.size V V' → g6 < V'.heap.size := fun _ _ h1 h2 => Nat.lt_of_lt_of_le h1 h2.size
        have hC0 : Box g2 #[.pointer (some ⟨gt, 0, none⟩)] 63 A.drew ∧ Box g6 #[.slice oL PR.length cL] 24 A.drew := ⟨H2A.out.drew, HB6.out.drew⟩
        have hown0 := owns_below hown (Below.refl A.heap.size A).drew
        clear hown
        refine wpIn_round_phase 6 (fun V => Box g2 #[.pointer (some ⟨gt, 0, none⟩)] 63 V ∧ Box g6 #[.slice oL PR.length cL] 24 V) (fun V => g6 < V.heap.size) (by kernel_rfl) (by kernel_rfl) (by rintro ⟨a, w, h⟩; exact h) ?_
        (refine wpAnyP_take0 (i := 0) hP0 hP1 hC0 (by decide) (by rfl) rfl (by kernel_rfl) rfl (by kernel_rfl) (by kernel_rfl) (by kernel_rfl) (fun _ _ _ _ h => h) (by rfl) ?_; apply Exists.intro; refine ⟨fun w1 h1 K hK => ?_, ?_⟩; · (have q0 : ∀ V : Aft w1, V.val.cell? ⟨g6, 0, none⟩ = some (.slice oL PR.length cL) := fun V => (hP0 _ _ h1 V.below).2.cell 0 rfl; go_big_quiet_op; first | exact hK | fail))
        (refine wpAnyP_take0 (i := 1) hP0 hP1 hC0 (by decide) (by rfl) rfl (by kernel_rfl) rfl (by kernel_rfl) (by kernel_rfl) (by kernel_rfl) (fun _ _ _ _ h => h) (by rfl) ?_; apply Exists.intro; refine ⟨fun w1 h1 K hK => ?_, ?_⟩; · (have q0 : ∀ V : Aft w1, V.val.cell? ⟨g2, 0, none⟩ = some (.pointer (some ⟨gt, 0, none⟩)) := fun V => (hP0 _ _ h1 V.below).1.cell 0 rfl; go_big_quiet_op; first | exact hK | fail))
        (refine wpAnyP_take0 (i := 2) hP0 hP1 hC0 (by decide) (by rfl) rfl (by kernel_rfl) rfl (by kernel_rfl) (by kernel_rfl) (by kernel_rfl) (fun _ _ _ _ h => h) (by rfl) ?_; apply Exists.intro; refine ⟨fun w1 h1 K hK => ?_, ?_⟩; · ( go_big_quiet_op; first | exact hK | fail))
        (refine wpAnyP_one (i := 3) (by kernel_rfl) rfl (by rfl) (fun wa hwa K hK => ?_))
        go_simp
        have hba := (Below.refl A.heap.size A).drew.trans (hwa.mono (Nat.le_refl _))
        have hSa : Same (fun b => b < X6.heap.size + 2 ∧ b ≠ gt ∧ b ≠ g6) A wa := Same.of_below hba fun _ h h9 => by omega
        have hSX := HSM.out.trans (hSa.mono fun k _ hk => ⟨by omega, hk.2⟩)
        refine (HZX.out wa T1 (HLA.out _ hSX) (HBT.out.below hba)).mono ?_
        rintro e wb ⟨T2, hbt2, hs2, hcase⟩
        have hA := hP0 _ _ hC0 hwa
        have hNE := HNE.out
        have hSb : Same (fun b => b < X6.heap.size + 2 ∧ b ≠ gt ∧ b ≠ g6) A wb := hSa.trans (hs2.mono fun k _ h => h.2.1)
        have hB2 : Box g2 #[.pointer (some ⟨gt, 0, none⟩)] 63 wb := ⟨(hs2.block g2 hA.1.lt (by have := HGT.out; omega)).trans hA.1.row⟩
        have hB6 : Box g6 #[.slice oL PR.length cL] 24 wb := ⟨(hs2.block g6 hA.2.lt (by omega)).trans hA.2.row⟩
        have hown1 := owns_sameP (owns_below hown0 hwa) hs2 (fun k hk => by omega)
        rcases hcase with ⟨rfl, hsx, hu1, hu2⟩ | ⟨rfl, hnx⟩
        · have hcond := S_in HZ.out HXN.out.2.1 hsx
          refine hK _ _ ⟨hB2, hB6⟩ ?_
          clear hK K hwa hba hSa hSX hs2 hA hC0 hown0
          have HT3 := Lib.hid (show ∀ j, j < n → (∃ c ∈ PR ++ [x], Und z c j) → T2 j = S z n j from fun j hj ⟨c, hc, hu⟩ => by
            by_cases hux : Und z x j
            · exact hu1 j hj hux
            · rw [hu2 j hux]
              refine HT1.out j hj ⟨c, ?_, hu⟩
              rcases List.mem_append.1 hc with hc | hc
              · exact hc
              · simp at hc; subst hc; exact absurd hu hux)
          have HT4 := Lib.hid (show ∀ j, (∀ c ∈ PR ++ [x], ¬ Und z c j) → T2 j = T j from fun j hj => by
            rw [hu2 j (hj x (by simp))]
            exact HT2.out j fun c hc => hj c (by simp [hc]))
          have HALL2 := Lib.hid (show ∀ c ∈ PR ++ [x], (rs z n c).isSome = true from fun c hc => by
            rcases List.mem_append.1 hc with hc | hc
            · exact HALL.out c hc
            · simp at hc; subst hc; exact hsx)
          have HSN := Lib.hid (spL_snoc z n PR x)
          have HPL := Lib.hid (show (PR ++ [x]).length = PR.length + 1 by simp)
          clear hu1 hu2 hsx hcond
          obtain ⟨sx, hsx⟩ : ∃ s, s = S z n x := ⟨_, rfl⟩
          rw [← hsx] at HSN ⊢
          clear hsx
          obtain ⟨xs, hxs⟩ : ∃ l, l = spL z n PR := ⟨_, rfl⟩
          rw [← hxs] at hown1 HSN
          obtain ⟨ys, hys⟩ : ∃ l, l = spL z n (PR ++ [x]) := ⟨_, rfl⟩
          rw [← hys] at HSN
          have HYS := Lib.hid hys
          clear hxs hys
          obtain ⟨slo, shi⟩ := sx
          (refine wpAnyP_one (i := 4) (by kernel_rfl) rfl (by rfl) (fun wc hwc K hK => ?_))
          go_simp
          have hcC := hP0 _ _ ⟨hB2, hB6⟩ hwc
          have hcD := hP0 _ _ hcC (below_alloc1 wc (.cells #[.int .i64 slo, .int .i64 shi] 41))
          refine hK _ _ hcD ?_
          clear hK K
          have zN := Box.new (g := wc.heap.size) #[.int .i64 slo, .int .i64 shi] 41 wc rfl
          have hown2 := owns_below (owns_below hown1 hwc) (below_alloc1 wc (.cells #[.int .i64 slo, .int .i64 shi] 41))
          have hbt3 := (hbt2.below hwc).below (below_alloc1 wc (.cells #[.int .i64 slo, .int .i64 shi] 41))
          have hSc : Same (fun b => b < X6.heap.size + 2 ∧ b ≠ gt ∧ b ≠ g6) A (wc.alloc (.cells #[.int .i64 slo, .int .i64 shi] 41)) := (hSb.trans (Same.of_below hwc fun _ h _ => h)).alloc _
          obtain ⟨gN, hG⟩ : ∃ G, G = wc.heap.size := ⟨_, rfl⟩
          obtain ⟨wC, hWC⟩ : ∃ X, X = wc.alloc (.cells #[.int .i64 slo, .int .i64 shi] 41) := ⟨_, rfl⟩
          rw [← hWC] at zN hown2 hbt3 hSc hcD ⊢
          rw [← hG] at zN ⊢
          clear hG hWC hown1 hcC hwc hB2 hB6 hbt2 hSb
          (refine wpAnyP_one (i := 5) (by kernel_rfl) rfl (by rfl) (fun wd hwd K hK => ?_))
          have hown3 := owns_below hown2 hwd
          have zN1 := zN.below hwd
          have hdC := hP0 _ _ hcD hwd
          have hSd : Same (fun b => b < X6.heap.size + 2 ∧ b ≠ gt ∧ b ≠ g6) A wd := hSc.trans (Same.of_below hwd fun _ h _ => h)
          have hbt4 := hbt3.below hwd
          refine wp_append_gen (.tmp 23) (.tmp 27) 24 rfl (X6.heap.size + 2) 41 iR _ 2 16 Try.underlying24 HIR.out HZR.out.1 HZR.out.2.1 HZR.out.2.2 rfl (by omega) (.slice oL PR.length cL) PR.length xs rfl hown3 (some ⟨gN, 0, none⟩) 1 1 [.int .i64 slo, .int .i64 shi] rfl (fun e9 => by cases e9) rfl (fun ad9 e9 j9 u9 hu9 => by cases e9; rw [add_flat, Nat.zero_add]; exact zN1.cell j9 (by rw [List.getElem?_toArray]; exact hu9)) (by simp [Value.oneCell']) (by simp only [maxLen]; omega) (by omega) (Nat.le_trans hAS hSd.size) (fun vT wS hownS hgrowS => ?_)
          rw [HSN.out, ← HPL.out] at hownS
          have hrow : ∀ k, (Value.slice oL PR.length cL).ownBlock = some k → X6.heap.size + 2 ≤ k := fun k e => (hown3.lt k e).1
          have hSe : Same (fun b => b < X6.heap.size + 2 ∧ b ≠ gt ∧ b ≠ g6) A wS := hSd.trans (Same.of_grownBy hgrowS fun k e hp => by have := hrow k e; have := hp.1; omega)
          have hgb : ∀ {g : Nat} {cs : Array Value} {t : TypeId}, Box g cs t wd → g < X6.heap.size → Box g cs t wS := fun hb hlt => ⟨(hgrowS.block _ hb.lt (fun e => by have := hrow _ e.symm; omega)).trans hb.row⟩
          have heC : Box g2 #[.pointer (some ⟨gt, 0, none⟩)] 63 wS ∧ Box g6 #[.slice oL PR.length cL] 24 wS := ⟨hgb hdC.1 hNE.2.2.2, hgb hdC.2 hNE.2.2.1⟩
          have hbt5 := hgb hbt4 hNE.2.1
          refine hK _ _ heC ?_
          clear hK K hown2 hown3 hgrowS hdC hSd hbt3 hbt4 hcD hSc zN zN1 hwd hgb hrow
          obtain ⟨oT, cT, rfl, -⟩ := owns_form hownS
          (refine wpAnyP_one (i := 6) (by kernel_rfl) rfl (by rfl) (fun we hwe K hK => ?_))
          have hf := hP0 _ _ heC hwe
          have hownT := owns_below hownS hwe
          refine wp_store_slice hf.2 rfl rfl rfl (by simp) (by kernel_rfl) (fun wf zf ho => ?_)
          dsimp only [Act.put]
          have hownU := owns_but hownT ho.but (own_ne hownT hf.2 (by decide))
          refine hK _ _ zf.lt ?_
          clear hK K
          refine wpAnyP_done (by kernel_rfl) (fun wz hwz => ?_) _
          have hbt6 := (ho.box (hbt5.below hwe) (by omega)).below hwz
          have hSf : Same (fun b => b < X6.heap.size + 2 ∧ b ≠ gt ∧ b ≠ g6) A wz := ((hSe.trans (Same.of_below hwe fun _ h _ => h)).trans ⟨ho.os, ho.tape, ho.output, Nat.le_of_eq ho.size.symm, fun b _ hp => ho.block b hp.2.2⟩).trans (Same.of_below hwz fun _ h _ => h)
          have hownV := owns_below hownU hwz
          have hb6z := zf.below hwz
          rw [HYS.out] at hownV
          refine ⟨hSf.mono fun k _ hk => ?_, ?_⟩
          · rcases hk with hk | rfl | rfl
            · exact ⟨by omega, hk.2⟩
            · exact ⟨by omega, by omega, by omega⟩
            · exact ⟨by omega, by omega, by omega⟩
          · show RI oa n ca z gt g6 T X6 (List.map (fun c : {c : Nat // c ∈ kidsTo z i n} => c.val) (pre ++ [⟨x, hx⟩])) wz
            rw [HPX.out]
            exact ⟨⟨_, hb6z, hownV⟩, ⟨T2, hbt6, HT3.out, HT4.out⟩, HSM.out.trans (hSf.mono fun k _ hk => ⟨by omega, hk.2⟩), HALL2.out⟩
        · refine ⟨rfl, hSb.mono fun k _ hk => ?_, rfl, ?_, ⟨T2, hbt2⟩, HSM.out.trans (hSb.mono fun k _ hk => ⟨by omega, hk.2⟩)⟩
          · rcases hk with rfl | rfl
            · exact ⟨by omega, by omega, by omega⟩
            · exact ⟨by omega, by omega, by omega⟩
          · rw [HE.out]
            unfold upStep
            rw [if_neg]
            rintro ⟨-, h9⟩
            have := h9 x HX.out
            rw [hnx] at this
            cases this
      case done =>
        rintro D xs A hD hxs hI hK
        have hxs : xs.map (fun c : {c : Nat // c ∈ kidsTo z i n} => c.val) = kidsTo z i n := hxs
        rw [hxs] at hI
        obtain ⟨⟨vL, hb6, hown⟩, ⟨T1, hbt, hT1, hT2⟩, hsm, hall⟩ := hI
        have hm12 : (kidsTo z i n).length ≤ n := kidsTo_len z i n
        obtain ⟨oL, cL, rfl, hsp, -⟩ := owns_spans (show A.ownsRow (X6.heap.size + 2) 41 2 vL (kidsTo z i n).length (spanNews (kidsTo z i n).length (fun j => S z n ((kidsTo z i n).getD j 0))) from hown)
        have hNE := HNE.out
        have hold : ∀ {g : Nat} {cs : Array Value} {t : TypeId}, Box g cs t X6 → g ≠ gt → g ≠ g6 → Box g cs t A := fun hb h1 h2 => ⟨(hsm.block _ hb.lt ⟨hb.lt, h1, h2⟩).trans hb.row⟩
        have hT4 := HGT.out
        have hT6 := HG6.out
        have hT5 := HG5.out
        have H2 := Lib.hid (hold H2.out (by omega) (by omega))
        have H4 := Lib.hid (hold H4.out (by omega) (by omega))
        have H5 := Lib.hid (hold H5.out (by omega) (by omega))
        have HBT := Lib.hid hbt
        have HK := Lib.hid hK
        have hDlt := (Array.getElem?_eq_some_iff.1 hK).1
        have HDN := Lib.hid (show X6.heap.size ≤ D ∧ D ≠ gt ∧ D ≠ g4 ∧ D ≠ g5 ∧ D ≠ g2 by
          have h1 := HW3.out.size
          refine ⟨hD, by omega, ?_, ?_, by omega⟩
          · rintro rfl; have := H4.out.row; rw [hK] at this; cases this
          · rintro rfl; have := H5.out.row; rw [hK] at this; cases this)
        have HSW := Lib.hid (show Same (· ≠ gt) W A from by
          have h1 := HW3.out.size
          exact ⟨hsm.os.trans HW3.out.os, hsm.tape.trans HW3.out.tape, hsm.output.trans HW3.out.output, Nat.le_trans h1 hsm.size, fun k hk hp => (hsm.block k (by omega) ⟨by omega, hp, by omega⟩).trans (HW3.out.block k hk)⟩)
        have HFIN := Lib.hid (show ∀ s, s = S z n i → (rs z n i).isSome = true → (∀ j, j < n → Und z i j → upd T1 i s j = S z n j) ∧ (∀ j, ¬ Und z i j → upd T1 i s j = T j) from fun s hs hsome => by
          refine ⟨fun j hj hu => ?_, fun j hu => ?_⟩
          · unfold upd
            by_cases hji : j = i
            · rw [if_pos hji, hji]; exact hs
            · rw [if_neg hji]
              rcases hu.cases_kid HZ.out hj with h | h
              · exact absurd h hji
              · exact hT1 j hj h
          · unfold upd
            rw [if_neg (by rintro rfl; exact hu .refl)]
            exact hT2 j fun c hc h => hu ((Und.kid hc).trans h))
        have HALL := Lib.hid hall
        have HSP := Lib.hid hsp
        have HBD := Lib.hid (show ∀ j, j < (kidsTo z i n).length → 0 ≤ (S z n ((kidsTo z i n).getD j 0)).lo ∧ (S z n ((kidsTo z i n).getD j 0)).lo ≤ (S z n ((kidsTo z i n).getD j 0)).hi ∧ (S z n ((kidsTo z i n).getD j 0)).hi ≤ 1073741824 from fun j hj => by
          have hmem : (kidsTo z i n).getD j 0 ∈ kidsTo z i n := by
            rw [List.getD_eq_getElem?_getD, List.getElem?_eq_getElem hj]; exact List.getElem_mem hj
          generalize (kidsTo z i n).getD j 0 = c at hmem ⊢
          have h1 := kid_gt HZ.out hmem
          have h2 := S_in HZ.out h1.2.1 (hall c hmem)
          have h3 := Zon.own_bd (HOKA.out c h1.2.1)
          omega)
        have HSL := Lib.hid (sumN_sumL (fun c => (S z n c).lo) (kidsTo z i n))
        have HSH := Lib.hid (sumN_sumL (fun c => (S z n c).hi) (kidsTo z i n))
        have c6 := hb6.cell 0 (v := .slice oL (kidsTo z i n).length cL) rfl
        have c2b := H2.out.cell 0 (v := .pointer (some ⟨gt, 0, none⟩)) rfl
        have l5 := H5.out.lt
        have f50 := H5.out.frozen 0
        have f51 := H5.out.frozen 1
        have d50 := H5.out.cell 0 (v := .int .i64 olo) rfl
        have d51 := H5.out.cell 1 (v := .int .i64 ohi) rfl
        clear hold hbt hK hDlt hsm hall hsp hown hb6 hT1 hT2 hxs hNE hT4 hT6 hT5 hD IH HSEQ HI0 HIR HZR
        refine (show wpAt 36 8 _ _ _ _ _ from wpAt_wp ?_)
        dsimp only
        by_cases hkn : kidsTo z i n = []
        · have HKN := Lib.hid hkn
          have hm0 : (kidsTo z i n).length = 0 := by rw [hkn]; rfl
          have HSI := Lib.hid (show rs z n i = some ⟨olo, ohi⟩ by
            rw [HE.out]; unfold upStep
            rw [if_pos ⟨HN3.out, HALL.out⟩, if_pos hkn])
          clear hkn
          obtain ⟨m, hm⟩ : ∃ m, m = (kidsTo z i n).length := ⟨_, rfl⟩
          rw [← hm] at hm0 c6
          subst hm0
          clear hm hm12
          go_upto_region 9 with fail
          clear c6 c2b l5 f50 f51 d50 d51
          have HS9 := Lib.hid (show (⟨olo, ohi⟩ : Spn) = S z n i ∧ (rs z n i).isSome = true from ⟨by show _ = spn (rs z n i); rw [HSI.out]; rfl, by rw [HSI.out]; rfl⟩)
          clear HSI HSP HBD HSL HSH HALL HKN
          obtain ⟨Y, hY⟩ : ∃ Y, Y = A := ⟨_, rfl⟩
          rw [← hY] at H2 H4 H5 HBT HK HSW ⊢
          clear hY
          obtain ⟨slo, hslo⟩ : ∃ x, x = olo := ⟨_, rfl⟩
          obtain ⟨shi, hshi⟩ : ∃ x, x = ohi := ⟨_, rfl⟩
          rw [← hslo, ← hshi] at H5 HS9
          clear hslo hshi
          have hP0 : ∀ V V' : World, (Box g2 #[.pointer (some ⟨gt, 0, none⟩)] 63 V ∧ Box g5 #[.int .i64 slo, .int .i64 shi] 41 V ∧ Box gt (towC (.slice oa n ca) T1) 66 V) → Below V.heap.size V V' → (Box g2 #[.pointer (some ⟨gt, 0, none⟩)] 63 V' ∧ Box g5 #[.int .i64 slo, .int .i64 shi] 41 V' ∧ Box gt (towC (.slice oa n ca) T1) 66 V') := fun V V' h1 h2 => ⟨h1.1.below h2, h1.2.1.below h2, h1.2.2.below h2⟩
          have hP1 : ∀ V V' : World, gt < V.heap.size → Below V.heap.size V V' → gt < V'.heap.size := fun _ _ h1 h2 => Nat.lt_of_lt_of_le h1 h2.size
          have hP01 : ∀ V : World, (Box g2 #[.pointer (some ⟨gt, 0, none⟩)] 63 V ∧ Box g5 #[.int .i64 slo, .int .i64 shi] 41 V ∧ Box gt (towC (.slice oa n ca) T1) 66 V) → gt < V.heap.size := fun _ h1 => h1.2.2.lt
          have hC0 := hP0 _ _ ⟨H2.out, H5.out, HBT.out⟩ (Below.refl Y.heap.size Y).drew
          have hi12 : (i : Int) < 12 := by omega
          refine wp_only_normal ?_
          refine wp_region_phase 6 (fun V => Box g2 #[.pointer (some ⟨gt, 0, none⟩)] 63 V ∧ Box g5 #[.int .i64 slo, .int .i64 shi] 41 V ∧ Box gt (towC (.slice oa n ca) T1) 66 V) (fun V => gt < V.heap.size) (by kernel_rfl) ?_
          (refine wpAnyP_take0 (i := 0) hP0 hP1 hC0 (by decide) (by rfl) rfl (by kernel_rfl) rfl (by kernel_rfl) (by kernel_rfl) (by kernel_rfl) (fun _ _ _ _ h => h) (by rfl) ?_; apply Exists.intro; refine ⟨fun w1 h1 K hK => ?_, ?_⟩; · (have q0 : ∀ V : Aft w1, V.val.cell? ⟨g2, 0, none⟩ = some (.pointer (some ⟨gt, 0, none⟩)) := fun V => (hP0 _ _ h1 V.below).1.cell 0 rfl; go_big_quiet_op; first | exact hK | fail))
          (refine wpAnyP_take0 (i := 1) hP0 hP1 hC0 (by decide) (by rfl) rfl (by kernel_rfl) rfl (by kernel_rfl) (by kernel_rfl) (by kernel_rfl) (fun _ _ _ _ h => h) (by rfl) ?_; apply Exists.intro; refine ⟨fun w1 h1 K hK => ?_, ?_⟩; · ( go_big_quiet_op; first | exact hK | fail))
          (refine wpAnyP_take0 (i := 2) hP0 hP1 hC0 (by decide) (by rfl) rfl (by kernel_rfl) rfl (by kernel_rfl) (by kernel_rfl) (by kernel_rfl) (fun _ _ _ _ h => h) (by rfl) ?_; apply Exists.intro; refine ⟨fun w1 h1 K hK => ?_, ?_⟩; · (have q0 : ∀ V : Aft w1, V.val.cell? ⟨g5, 0, none⟩ = some (.int .i64 slo) := fun V => (hP0 _ _ h1 V.below).2.1.cell 0 rfl; have q1 : ∀ V : Aft w1, V.val.cell? ⟨g5, 1, none⟩ = some (.int .i64 shi) := fun V => (hP0 _ _ h1 V.below).2.1.cell 1 rfl; have q2 : ∀ V : Aft w1, g5 < V.val.heap.size := fun V => (hP0 _ _ h1 V.below).2.1.lt; go_big_quiet_op; first | exact hK | fail))
          (refine wpAnyP_take1 (i := 3) hP0 hP1 hP01 hC0 (by decide) rfl (by kernel_rfl) (by kernel_rfl) (by kernel_rfl) (fun _ _ _ _ h => h) (by rfl) ?_; apply Exists.intro; refine ⟨fun w1 h1 K hK => ?_, ?_⟩; · (have q0 : ∀ V : Aft w1, gt < V.val.heap.size := fun V => hP1 _ _ h1 V.below; go_big_quiet_op; first | exact hK | fail))
          (refine wpAnyP_take1 (i := 4) hP0 hP1 hP01 hC0 (by decide) rfl (by kernel_rfl) (by kernel_rfl) (by kernel_rfl) (fun _ _ _ _ h => h) (by rfl) ?_; apply Exists.intro; refine ⟨fun w1 h1 K hK => ?_, ?_⟩; · (have q0 : ∀ V : Aft w1, gt < V.val.heap.size := fun V => hP1 _ _ h1 V.below; go_big_quiet_op; first | exact hK | fail))
          (refine wpAnyP_take0 (i := 5) hP0 hP1 hC0 (by decide) (by rfl) rfl (by kernel_rfl) rfl (by kernel_rfl) (by kernel_rfl) (by kernel_rfl) (fun _ _ _ _ h => h) (by rfl) ?_; apply Exists.intro; refine ⟨fun w1 h1 K hK => ?_, ?_⟩; · (have q0 : ∀ V : Aft w1, gt < V.val.heap.size := fun V => (hP0 _ _ h1 V.below).2.2.lt; go_big_quiet_op; first | exact hK | fail))
          (refine wpAnyP_one (i := 6) (by kernel_rfl) rfl (by rfl) (fun ya hya K hK => ?_))
          have hy0 := hP0 _ _ hC0 hya
          refine wp_store_at hy0.2.2 rfl rfl rfl (by simp; omega) (by kernel_rfl) (by simp [Value.oneCell']) (fun yb zs ho => ?_)
          dsimp only [Act.put]
          rw [show (#[Value.int .i64 slo, Value.int .i64 shi] : Array Value).toList = [.int .i64 slo, .int .i64 shi] from rfl] at zs
          have zs := (show setA (towC (.slice oa n ca) T1) (1 + i * 2) [.int .i64 slo, .int .i64 shi] = towC (.slice oa n ca) (upd T1 i ⟨slo, shi⟩) from towC_set (by omega) ⟨slo, shi⟩) ▸ zs
          refine hK _ _ zs.lt ?_
          clear hK K
          refine wpAnyP_done (by kernel_rfl) (fun yc hyc => ?_) _
          have hDN := HDN.out
          have hKc : yc.heap[D]? = some (.deferred (some [])) := by
            have h9 := HK.out
            have hlt := (Array.getElem?_eq_some_iff.1 h9).1
            have h1 : ya.heap[D]? = some (.deferred (some [])) := ((Below.refl Y.heap.size Y).drew.trans (hya.mono (Nat.le_refl _))).block D hlt |>.trans h9
            have h2 : yb.heap[D]? = some (.deferred (some [])) := (ho.block D hDN.2.1).trans h1
            exact (hyc.block D (Array.getElem?_eq_some_iff.1 h2).1).trans h2
          have hYa := (Below.refl Y.heap.size Y).drew.trans (hya.mono (Nat.le_refl _))
          have hgt := HGT.out
          have hg5 := HG5.out
          replace HK := Lib.hid hKc
          replace H5 := Lib.hid ((ho.box (H5.out.below hYa) (by omega)).below hyc)
          replace H4 := Lib.hid ((ho.box (H4.out.below hYa) (by omega)).below hyc)
          replace HBT := Lib.hid (zs.below hyc)
          replace HSW := Lib.hid (((HSW.out.trans (Same.of_below hYa fun _ h _ => h)).trans (⟨ho.os, ho.tape, ho.output, Nat.le_of_eq ho.size.symm, fun b _ hp => ho.block b hp⟩ : Same (· ≠ gt) ya yb)).trans (Same.of_below hyc fun _ h _ => h))
          clear hP0 hP1 hP01 hC0 hya hy0 zs ho hyc hKc hYa H2
          have d50 := H5.out.cell 0 (v := .int .i64 slo) rfl
          have d51 := H5.out.cell 1 (v := .int .i64 shi) rfl
          have l5 := H5.out.lt
          have d40 := H4.out.cell 0 (v := .int .i64 0) rfl
          have d41 := H4.out.cell 1 (v := .int .i64 0) rfl
          have f40 := H4.out.frozen 0
          have f41 := H4.out.frozen 1
          have l4 := H4.out.lt
          dsimp only
          go_wp2_with fail
          have hK9 : ((yc.setCell ⟨g4, 0, none⟩ (.int .i64 slo)).setCell ⟨g4, 1, none⟩ (.int .i64 shi)).heap[D]? = some (.deferred (some [])) := by
            rw [Below.heap_setCell _ _ _ _ hDN.2.2.1, Below.heap_setCell _ _ _ _ hDN.2.2.1]; exact HK.out
          have h49 := H4.out.set2 (.int .i64 slo) (.int .i64 shi)
          have hs9 : Same (· ≠ gt) W ((yc.setCell ⟨g4, 0, none⟩ (.int .i64 slo)).setCell ⟨g4, 1, none⟩ (.int .i64 shi)) := (HSW.out.setCell (fun _ => HG2.out.2.1) _).setCell (fun _ => HG2.out.2.1) _
          have hgt9 : Box gt (towC (.slice oa n ca) (upd T1 i ⟨slo, shi⟩)) 66 ((yc.setCell ⟨g4, 0, none⟩ (.int .i64 slo)).setCell ⟨g4, 1, none⟩ (.int .i64 shi)) := (HBT.out.other (by omega) 0 _).other (by omega) 1 _
          refine leave_mark (.inl rfl) hK9 (res41 rfl _ _ g4 slo shi rfl ⟨(World.putObj_heap_other (by omega)).trans h49.row⟩) ⟨upd T1 i ⟨slo, shi⟩, ⟨(World.putObj_heap_other (by omega)).trans hgt9.row⟩, hs9.putObj (fun _ => by have := HW3.out.size; omega) _, .inl ⟨by rw [← HS9.out.1], HS9.out.2, (HFIN.out _ HS9.out.1 HS9.out.2).1, (HFIN.out _ HS9.out.1 HS9.out.2).2⟩⟩
        · have HKN := Lib.hid hkn
          have hm0 : 1 ≤ (kidsTo z i n).length := by
            rcases hq : kidsTo z i n with _ | ⟨a, q⟩
            · exact absurd hq hkn
            · simp
          have HSI := Lib.hid (show rs z n i = if (cutS ⟨olo, ohi⟩ (sumL (fun c => (S z n c).lo) (kidsTo z i n)) (sumL (fun c => (S z n c).hi) (kidsTo z i n))).lo ≤ (cutS ⟨olo, ohi⟩ (sumL (fun c => (S z n c).lo) (kidsTo z i n)) (sumL (fun c => (S z n c).hi) (kidsTo z i n))).hi then some (cutS ⟨olo, ohi⟩ (sumL (fun c => (S z n c).lo) (kidsTo z i n)) (sumL (fun c => (S z n c).hi) (kidsTo z i n))) else none by
            rw [HE.out]; unfold upStep
            rw [if_pos ⟨HN3.out, HALL.out⟩, if_neg hkn])
          clear hkn
          obtain ⟨m, hm⟩ : ∃ m, m = (kidsTo z i n).length := ⟨_, rfl⟩
          rw [← hm] at hm0 c6 hm12 HSP HBD HSL HSH
          clear hm
          have hm1 : (0 : Int) < (m : Int) := by omega
          have SA := Lib.hid (fun (V : World) (hb : Below A.heap.size A V) => sum_any oL m cL (fun j => S z n ((kidsTo z i n).getD j 0)) V (by omega) HBD.out (HSP.out.mono hb))
          rw [HSL.out, HSH.out] at SA
          obtain ⟨L9, hL9⟩ : ∃ x, x = sumL (fun c => (S z n c).lo) (kidsTo z i n) := ⟨_, rfl⟩
          obtain ⟨H9, hH9⟩ : ∃ x, x = sumL (fun c => (S z n c).hi) (kidsTo z i n) := ⟨_, rfl⟩
          rw [← hL9, ← hH9] at SA HSI
          clear hL9 hH9 HSL HSH HSP HBD
          have CA := Lib.hid (fun (V : World) => cut_any ⟨olo, ohi⟩ L9 H9 V)
          go_wp2_with fail
          refine (SA.out _ (Below.refl _ _)).mono ?_
          rintro e Y1 ⟨rfl, hy1⟩
          have d50 := (H5.out.below hy1).cell 0 (v := .int .i64 olo) rfl
          have d51 := (H5.out.below hy1).cell 1 (v := .int .i64 ohi) rfl
          have l5 := (H5.out.below hy1).lt
          go_wp2_with fail
          refine (CA.out _).mono ?_
          rintro e Y2 ⟨hne, hy2⟩
          have hy3 := hy1.trans (hy2.mono hy1.size)
          have hKY : Y2.heap[D]? = some (.deferred (some [])) := by
            have h9 := HK.out
            exact (hy3.block D (Array.getElem?_eq_some_iff.1 h9).1).trans h9
          replace HK := Lib.hid hKY
          replace H2 := Lib.hid (H2.out.below hy3)
          replace H4 := Lib.hid (H4.out.below hy3)
          replace H5 := Lib.hid (H5.out.below hy3)
          replace HBT := Lib.hid (HBT.out.below hy3)
          replace HSW := Lib.hid (HSW.out.trans (Same.of_below hy3 fun _ h _ => h))
          clear c6 c2b l5 f50 f51 d50 d51 hy1 hy2 hy3 hKY
          rcases hne with ⟨hne, rfl⟩ | ⟨hne, rfl⟩
          · have hno : rs z n i = none := by rw [HSI.out, if_neg (by omega)]
            have hDN := HDN.out
            have hsame : Same (· ≠ gt) W (Y2.putObj D (.deferred none)) := HSW.out.putObj (fun _ => by have := HW3.out.size; omega) _
            exact leave_mark_panic HK.out ⟨T1, ⟨(World.putObj_heap_other (by omega)).trans HBT.out.row⟩, hsame, .inr ⟨rfl, hno⟩⟩
          · have HS9 := Lib.hid (show cutS ⟨olo, ohi⟩ L9 H9 = S z n i ∧ (rs z n i).isSome = true by
              have h9 : rs z n i = some (cutS ⟨olo, ohi⟩ L9 H9) := by rw [HSI.out, if_pos hne]
              exact ⟨by show _ = spn (rs z n i); rw [h9]; rfl, by rw [h9]; rfl⟩)
            obtain ⟨C9, hC9⟩ : ∃ x, x = cutS ⟨olo, ohi⟩ L9 H9 := ⟨_, rfl⟩
            rw [← hC9] at HS9 ⊢
            clear hne hC9 HSI SA CA
            obtain ⟨slo, shi⟩ := C9
            have d50 := H5.out.cell 0 (v := .int .i64 olo) rfl
            have d51 := H5.out.cell 1 (v := .int .i64 ohi) rfl
            have f50 := H5.out.frozen 0
            have f51 := H5.out.frozen 1
            have l5 := H5.out.lt
            go_upto_region 9 with fail
            clear l5 f50 f51 d50 d51
            have hgt8 := HGT.out
            have hg58 := HG5.out
            have hDN8 := HDN.out
            have hK8 : ((Y2.setCell ⟨g5, 0, none⟩ (.int .i64 slo)).setCell ⟨g5, 1, none⟩ (.int .i64 shi)).heap[D]? = some (.deferred (some [])) := by
              rw [Below.heap_setCell _ _ _ _ hDN8.2.2.2.1, Below.heap_setCell _ _ _ _ hDN8.2.2.2.1]; exact HK.out
            replace HK := Lib.hid hK8
            replace H5 := Lib.hid (H5.out.set2 (.int .i64 slo) (.int .i64 shi))
            replace H2 := Lib.hid ((H2.out.other (show g2 ≠ g5 by omega) 0 (.int .i64 slo)).other (show g2 ≠ g5 by omega) 1 (.int .i64 shi))
            replace H4 := Lib.hid ((H4.out.other (show g4 ≠ g5 by omega) 0 (.int .i64 slo)).other (show g4 ≠ g5 by omega) 1 (.int .i64 shi))
            replace HBT := Lib.hid ((HBT.out.other (show gt ≠ g5 by omega) 0 (.int .i64 slo)).other (show gt ≠ g5 by omega) 1 (.int .i64 shi))
            replace HSW := Lib.hid ((HSW.out.setCell (a := ⟨g5, 0, none⟩) (fun _ => HG5.out.1) (.int .i64 slo)).setCell (a := ⟨g5, 1, none⟩) (fun _ => HG5.out.1) (.int .i64 shi))
            clear hgt8 hg58 hDN8 hK8
            obtain ⟨Y, hY⟩ : ∃ Y, Y = (Y2.setCell ⟨g5, 0, none⟩ (.int .i64 slo)).setCell ⟨g5, 1, none⟩ (.int .i64 shi) := ⟨_, rfl⟩
            rw [← hY] at H2 H4 H5 HBT HK HSW ⊢
            clear hY
            have hP0 : ∀ V V' : World, (Box g2 #[.pointer (some ⟨gt, 0, none⟩)] 63 V ∧ Box g5 #[.int .i64 slo, .int .i64 shi] 41 V ∧ Box gt (towC (.slice oa n ca) T1) 66 V) → Below V.heap.size V V' → (Box g2 #[.pointer (some ⟨gt, 0, none⟩)] 63 V' ∧ Box g5 #[.int .i64 slo, .int .i64 shi] 41 V' ∧ Box gt (towC (.slice oa n ca) T1) 66 V') := fun V V' h1 h2 => ⟨h1.1.below h2, h1.2.1.below h2, h1.2.2.below h2⟩
            have hP1 : ∀ V V' : World, gt < V.heap.size → Below V.heap.size V V' → gt < V'.heap.size := fun _ _ h1 h2 => Nat.lt_of_lt_of_le h1 h2.size
            have hP01 : ∀ V : World, (Box g2 #[.pointer (some ⟨gt, 0, none⟩)] 63 V ∧ Box g5 #[.int .i64 slo, .int .i64 shi] 41 V ∧ Box gt (towC (.slice oa n ca) T1) 66 V) → gt < V.heap.size := fun _ h1 => h1.2.2.lt
            have hC0 := hP0 _ _ ⟨H2.out, H5.out, HBT.out⟩ (Below.refl Y.heap.size Y).drew
            have hi12 : (i : Int) < 12 := by omega
            refine wp_only_normal ?_
            refine wp_region_phase 6 (fun V => Box g2 #[.pointer (some ⟨gt, 0, none⟩)] 63 V ∧ Box g5 #[.int .i64 slo, .int .i64 shi] 41 V ∧ Box gt (towC (.slice oa n ca) T1) 66 V) (fun V => gt < V.heap.size) (by kernel_rfl) ?_
            (refine wpAnyP_take0 (i := 0) hP0 hP1 hC0 (by decide) (by rfl) rfl (by kernel_rfl) rfl (by kernel_rfl) (by kernel_rfl) (by kernel_rfl) (fun _ _ _ _ h => h) (by rfl) ?_; apply Exists.intro; refine ⟨fun w1 h1 K hK => ?_, ?_⟩; · (have q0 : ∀ V : Aft w1, V.val.cell? ⟨g2, 0, none⟩ = some (.pointer (some ⟨gt, 0, none⟩)) := fun V => (hP0 _ _ h1 V.below).1.cell 0 rfl; go_big_quiet_op; first | exact hK | fail))
            (refine wpAnyP_take0 (i := 1) hP0 hP1 hC0 (by decide) (by rfl) rfl (by kernel_rfl) rfl (by kernel_rfl) (by kernel_rfl) (by kernel_rfl) (fun _ _ _ _ h => h) (by rfl) ?_; apply Exists.intro; refine ⟨fun w1 h1 K hK => ?_, ?_⟩; · ( go_big_quiet_op; first | exact hK | fail))
            (refine wpAnyP_take0 (i := 2) hP0 hP1 hC0 (by decide) (by rfl) rfl (by kernel_rfl) rfl (by kernel_rfl) (by kernel_rfl) (by kernel_rfl) (fun _ _ _ _ h => h) (by rfl) ?_; apply Exists.intro; refine ⟨fun w1 h1 K hK => ?_, ?_⟩; · (have q0 : ∀ V : Aft w1, V.val.cell? ⟨g5, 0, none⟩ = some (.int .i64 slo) := fun V => (hP0 _ _ h1 V.below).2.1.cell 0 rfl; have q1 : ∀ V : Aft w1, V.val.cell? ⟨g5, 1, none⟩ = some (.int .i64 shi) := fun V => (hP0 _ _ h1 V.below).2.1.cell 1 rfl; have q2 : ∀ V : Aft w1, g5 < V.val.heap.size := fun V => (hP0 _ _ h1 V.below).2.1.lt; go_big_quiet_op; first | exact hK | fail))
            (refine wpAnyP_take1 (i := 3) hP0 hP1 hP01 hC0 (by decide) rfl (by kernel_rfl) (by kernel_rfl) (by kernel_rfl) (fun _ _ _ _ h => h) (by rfl) ?_; apply Exists.intro; refine ⟨fun w1 h1 K hK => ?_, ?_⟩; · (have q0 : ∀ V : Aft w1, gt < V.val.heap.size := fun V => hP1 _ _ h1 V.below; go_big_quiet_op; first | exact hK | fail))
            (refine wpAnyP_take1 (i := 4) hP0 hP1 hP01 hC0 (by decide) rfl (by kernel_rfl) (by kernel_rfl) (by kernel_rfl) (fun _ _ _ _ h => h) (by rfl) ?_; apply Exists.intro; refine ⟨fun w1 h1 K hK => ?_, ?_⟩; · (have q0 : ∀ V : Aft w1, gt < V.val.heap.size := fun V => hP1 _ _ h1 V.below; go_big_quiet_op; first | exact hK | fail))
            (refine wpAnyP_take0 (i := 5) hP0 hP1 hC0 (by decide) (by rfl) rfl (by kernel_rfl) rfl (by kernel_rfl) (by kernel_rfl) (by kernel_rfl) (fun _ _ _ _ h => h) (by rfl) ?_; apply Exists.intro; refine ⟨fun w1 h1 K hK => ?_, ?_⟩; · (have q0 : ∀ V : Aft w1, gt < V.val.heap.size := fun V => (hP0 _ _ h1 V.below).2.2.lt; go_big_quiet_op; first | exact hK | fail))
            (refine wpAnyP_one (i := 6) (by kernel_rfl) rfl (by rfl) (fun ya hya K hK => ?_))
            have hy0 := hP0 _ _ hC0 hya
            refine wp_store_at hy0.2.2 rfl rfl rfl (by simp; omega) (by kernel_rfl) (by simp [Value.oneCell']) (fun yb zs ho => ?_)
            dsimp only [Act.put]
            rw [show (#[Value.int .i64 slo, Value.int .i64 shi] : Array Value).toList = [.int .i64 slo, .int .i64 shi] from rfl] at zs
            have zs := (show setA (towC (.slice oa n ca) T1) (1 + i * 2) [.int .i64 slo, .int .i64 shi] = towC (.slice oa n ca) (upd T1 i ⟨slo, shi⟩) from towC_set (by omega) ⟨slo, shi⟩) ▸ zs
            refine hK _ _ zs.lt ?_
            clear hK K
            refine wpAnyP_done (by kernel_rfl) (fun yc hyc => ?_) _
            have hDN := HDN.out
            have hKc : yc.heap[D]? = some (.deferred (some [])) := by
              have h9 := HK.out
              have hlt := (Array.getElem?_eq_some_iff.1 h9).1
              have h1 : ya.heap[D]? = some (.deferred (some [])) := ((Below.refl Y.heap.size Y).drew.trans (hya.mono (Nat.le_refl _))).block D hlt |>.trans h9
              have h2 : yb.heap[D]? = some (.deferred (some [])) := (ho.block D hDN.2.1).trans h1
              exact (hyc.block D (Array.getElem?_eq_some_iff.1 h2).1).trans h2
            have hYa := (Below.refl Y.heap.size Y).drew.trans (hya.mono (Nat.le_refl _))
            have hgt := HGT.out
            have hg5 := HG5.out
            replace HK := Lib.hid hKc
            replace H5 := Lib.hid ((ho.box (H5.out.below hYa) (by omega)).below hyc)
            replace H4 := Lib.hid ((ho.box (H4.out.below hYa) (by omega)).below hyc)
            replace HBT := Lib.hid (zs.below hyc)
            replace HSW := Lib.hid (((HSW.out.trans (Same.of_below hYa fun _ h _ => h)).trans (⟨ho.os, ho.tape, ho.output, Nat.le_of_eq ho.size.symm, fun b _ hp => ho.block b hp⟩ : Same (· ≠ gt) ya yb)).trans (Same.of_below hyc fun _ h _ => h))
            clear hP0 hP1 hP01 hC0 hya hy0 zs ho hyc hKc hYa H2
            have d50 := H5.out.cell 0 (v := .int .i64 slo) rfl
            have d51 := H5.out.cell 1 (v := .int .i64 shi) rfl
            have l5 := H5.out.lt
            have d40 := H4.out.cell 0 (v := .int .i64 0) rfl
            have d41 := H4.out.cell 1 (v := .int .i64 0) rfl
            have f40 := H4.out.frozen 0
            have f41 := H4.out.frozen 1
            have l4 := H4.out.lt
            dsimp only
            go_wp2_with fail
            have hK9 : ((yc.setCell ⟨g4, 0, none⟩ (.int .i64 slo)).setCell ⟨g4, 1, none⟩ (.int .i64 shi)).heap[D]? = some (.deferred (some [])) := by
              rw [Below.heap_setCell _ _ _ _ hDN.2.2.1, Below.heap_setCell _ _ _ _ hDN.2.2.1]; exact HK.out
            have h49 := H4.out.set2 (.int .i64 slo) (.int .i64 shi)
            have hs9 : Same (· ≠ gt) W ((yc.setCell ⟨g4, 0, none⟩ (.int .i64 slo)).setCell ⟨g4, 1, none⟩ (.int .i64 shi)) := (HSW.out.setCell (fun _ => HG2.out.2.1) _).setCell (fun _ => HG2.out.2.1) _
            have hgt9 : Box gt (towC (.slice oa n ca) (upd T1 i ⟨slo, shi⟩)) 66 ((yc.setCell ⟨g4, 0, none⟩ (.int .i64 slo)).setCell ⟨g4, 1, none⟩ (.int .i64 shi)) := (HBT.out.other (by omega) 0 _).other (by omega) 1 _
            refine leave_mark (.inl rfl) hK9 (res41 rfl _ _ g4 slo shi rfl ⟨(World.putObj_heap_other (by omega)).trans h49.row⟩) ⟨upd T1 i ⟨slo, shi⟩, ⟨(World.putObj_heap_other (by omega)).trans hgt9.row⟩, hs9.putObj (fun _ => by have := HW3.out.size; omega) _, .inl ⟨by rw [← HS9.out.1], HS9.out.2, (HFIN.out _ HS9.out.1 HS9.out.2).1, (HFIN.out _ HS9.out.1 HS9.out.2).2⟩⟩
      case stop =>
        intro D c pre A hD hS h
        exact h.elim
      case pan =>
        rintro D ch pre A hD ⟨kk, hkk, hpre⟩ ⟨rfl, hno, ⟨T', ht⟩, hs⟩ hK
        have hlt := (Array.getElem?_eq_some_iff.1 hK).1
        have hsame : Same (· ≠ gt) W (A.putObj D (.deferred none)) := by
          have h1 := HW3.out.size
          have h2 := HNE.out
          have h3 := HG6.out
          have h4 : Same (· ≠ gt) W A := ⟨hs.os.trans HW3.out.os, hs.tape.trans HW3.out.tape, hs.output.trans HW3.out.output, Nat.le_trans h1 hs.size, fun k hk hp => (hs.block k (by omega) ⟨by omega, hp, by omega⟩).trans (HW3.out.block k hk)⟩
          exact h4.putObj (fun _ => by omega) _
        refine leave_mark_panic hK ⟨T', ?_, hsame, .inr ⟨rfl, hno⟩⟩
        have h2 := HNE.out
        exact ⟨(World.putObj_heap_other (by omega)).trans ht.row⟩
end Go.Proofs.Ytipnaeijbbbdoaa
