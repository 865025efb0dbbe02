/- Zone: Wrong. -/
import Derived.Test.YtipnaeijbbbdoaaW12
namespace Go.Proofs.Ytipnaeijbbbdoaa
open Go.RowKit
attribute [local go_sem] Oper.semAt_some
set_option maxHeartbeats 400000 in
theorem backward_any (oa : Option Addr) (n ca : Nat) (w : World) :
    Calls Try.prog 41 #[.slice oa n ca] w fun e w' => e = .returned (.func (.func 66) #[] #[.pointer (some ⟨w.heap.size, 0, none⟩)]) ∧ w' = w.alloc (.cells #[.slice oa n ca] 22) := by
  go_enter Try.func41, Try.ntmps41
  go_wp2
  go_ret
  exact ⟨by simp, rfl⟩
/-- the numbers from n - 1 down to k -/
def revTo (n k : Nat) : List Nat := (List.range' k (n - k)).reverse
theorem revTo_top (n : Nat) : revTo n n = [] := by simp [revTo]
theorem revTo_step {n k : Nat} (h : k < n) : revTo n (k + 1) ++ [k] = revTo n k := by
  unfold revTo
  have e : n - k = (n - (k + 1)) + 1 := by omega
  rw [e, List.range'_succ, List.reverse_cons]
theorem mem_revTo {n k i : Nat} : i ∈ revTo n k ↔ k ≤ i ∧ i < n := by
  unfold revTo
  rw [List.mem_reverse, List.mem_range'_1]
  omega
theorem revTo_len (n k : Nat) : (revTo n k).length = n - k := by simp [revTo]
set_option maxRecDepth 100000 in
set_option maxHeartbeats 8000000 in
theorem back_seq (oa : Option Addr) (n ca : Nat) (z : Nat → Zon) (b1 : Nat) (Pr : Nat → Prop) (w W0 : World) (hA : ZonsAt w oa n z) (hn : n ≤ 1000) (hPw : ∀ b, b < w.heap.size → Pr b) (hP1 : Pr b1) (hlow : Below w.heap.size w W0)
    (hx1 : Box b1 #[.slice oa n ca] 22 W0) (m : Nat) (hm : 4 ≤ m) :
    SeqQP m Try.prog 66 #[.pointer (some ⟨b1, 0, none⟩)] (fun b : Nat => #[.int .i64 b, (z b).val]) Pr (fun xs => xs = revTo n 0) (fun xs => ∃ k : Nat, k < n ∧ xs = revTo n k) (n + 1) W0 (fun c => c < n) := by
  intro l J Jx Jp W hW hJ hJx hY h0
  refine callsIn_of_wp Try.func66 rfl trivial ?_ rfl
  simp only [Try.ntmps66, List.size_toArray, List.length_cons, List.length_nil, Nat.reduceAdd, Nat.reduceSub, Array.replicate_succ, Array.replicate_zero, List.push_toArray, List.append_toArray, List.nil_append, List.cons_append]
  have HB1 := Lib.hid (show ∀ X, Same Pr W X → Box b1 #[.slice oa n ca] 22 X from fun X hs => by
    have h9 := hx1.below hW
    exact ⟨(hs.block b1 h9.lt hP1).trans h9.row⟩)
  have HAX := Lib.hid (show ∀ X, Same Pr W X → ZonsAt X oa n z from fun X hs => hA.mono ((hlow.trans (hW.mono hlow.size)).trans (hs.below ((hlow.trans (hW.mono hlow.size)).size) fun k hk => hPw k hk)))
  have HY := Lib.hid hY
  have HJ := Lib.hid hJ
  have H0 := Lib.hid h0
  have c1 := (hx1.below hW).cell 0 (v := .slice oa n ca) rfl
  clear hW hJ hJx hY h0 hA hPw hP1 hlow hx1
  gi_wp2_with fail
  clear c1
  gi_loopw [3] (fun v3 wr => ∃ k : Nat, k ≤ n ∧ v3 = .int .i64 ((k : Int) - 1) ∧ J (revTo n k) wr ∧ Same Pr W wr) (fun v3 _ => (intOf v3 + 1).toNat)
  case atStart => exact ⟨n, Nat.le_refl _, rfl, by rw [revTo_top]; exact H0.out, Same.refl _ _⟩
  case round =>
    obtain ⟨k1, hkM, rfl, hJr, hSr⟩ := hrel
    have HJr := Lib.hid hJr
    have HSr := Lib.hid hSr
    clear hJr hSr
    refine wpIn_wide.2 ?_
    rcases Nat.eq_zero_or_pos k1 with rfl | hpos
    · have HE := Lib.hid HJr.out
      go_wp2_with fail
      refine bodyPost_end (results_none rfl _ _ _) rfl (.inl ⟨⟨_, rfl⟩, .inl (by first | exact HE.out | exact ⟨_, rfl, HE.out⟩)⟩)
    · obtain ⟨k, rfl⟩ : ∃ k, k1 = k + 1 := ⟨k1 - 1, by omega⟩
      have hkk : ((k + 1 : Nat) : Int) - 1 = (k : Int) := by omega
      rw [hkk]
      have hlt : k < n := by omega
      obtain ⟨zb, off, hoa, hl, c0, c1, c2, c3, c4, c5, c6, c7, c8⟩ := HAX.out wr HSr.out k hlt
      have hb := HB1.out wr HSr.out
      have cb := hb.cell 0 (v := .slice oa n ca) rfl
      subst hoa
      have E1 := Lib.hid (revTo_step hlt)
      have hk0 : (0 : Int) ≤ (k : Int) := by omega
      have hk1 : (k : Int) < (n : Int) := by omega
      clear hkk hb
      obtain ⟨fn, tmps, assign, body, hy, hRd⟩ := HY.out (revTo n (k + 1)) k wr hlt HJr.out (by rw [revTo_len]; omega)
      refine (wpIn_wide (n := m)).1 ?_
      gi_wp2
      refine ⟨fun _ => by omega, hRd.mono ?_⟩
      rintro e W8 (⟨rfl, hJ8, hk8⟩ | ⟨rfl, hJx8⟩ | ⟨ch, rfl, hJp⟩)
      · clear hy hRd
        have J8 := Lib.hid hJ8
        have K8 := Lib.hid (HSr.out.trans hk8)
        clear hJ8 hk8 c0 c1 c2 c3 c4 c5 c6 c7 c8 cb
        gi_wp2
        go_roundw
        case rel => exact ⟨k, by omega, rfl, by rw [← E1.out]; exact J8.out, K8.out⟩
        case measure => simp [intOf]
      · clear hy hRd
        gi_wp2
        refine bodyPost_ret (results_none rfl _ _ _) rfl (.inl ⟨⟨_, rfl⟩, .inr ⟨_, ⟨k, hlt, E1.out⟩, hJx8⟩⟩)
      · clear hy hRd
        gi_wp2
        refine And.intro rfl (Or.inr ?_)
        exact ⟨ch, rfl, revTo n (k + 1) ++ [k], ⟨k, hlt, E1.out⟩, hJp⟩
/-- what Wrong says -/
def WrongP (n : Nat) (z : Nat → Zon) (w : World) (e : Ending) (w' : World) : Prop :=
  Below w.heap.size w w' ∧ ((listB n z = false ∧ e = .returned (.tuple #[.int .i64 0, .int .i64 1])) ∨ (listB n z = true ∧ AllR z n ∧ e = .returned (.tuple #[.int .i64 0, .int .i64 4])) ∨
    (listB n z = true ∧ ∃ k : Nat, k < n ∧ rs z n k = none ∧ (∀ j, k < j → j < n → (rs z n j).isSome = true) ∧ e = .returned (.tuple #[.int .i64 k, .int .i64 0])))
theorem res325 {fn : Func} {p q : Tmp} (h : fn.results = #[.cell p 3, .cell q 25]) (tmps : Array Value) (w : World) (g g' : Nat) (a b : Int) (hp : tmps.getD p undef = .pointer (some ⟨g, 0, none⟩)) (hq : tmps.getD q undef = .pointer (some ⟨g', 0, none⟩)) (hB : Box g #[.int .i64 a] 3 w) (hB' : Box g' #[.int .i64 b] 25 w) :
    (results fn tmps).run Try.prog w = .ok (.tuple #[.int .i64 a, .int .i64 b]) w := by
  have hp' : tmps[p]?.getD undef = .pointer (some ⟨g, 0, none⟩) := by simpa using hp
  have hq' : tmps[q]?.getD undef = .pointer (some ⟨g', 0, none⟩) := by simpa using hq
  have c1 := hB.cell 0 (v := .int .i64 a) rfl
  have c2 := hB'.cell 0 (v := .int .i64 b) rfl
  unfold results
  simp only [h]
  simp [hp', hq', asAddr, c1, c2, go_sem]
/-- what the rounds of Wrong keep -/
structure WI (oa : Option Addr) (n ca : Nat) (z : Nat → Zon) (gt : Nat) (X : World) (pre : List Nat) (A : World) : Prop where
  tow : ∃ T', Box gt (towC (.slice oa n ca) T') 66 A
  low : Same (fun b => b < X.heap.size ∧ b ≠ gt) X A
  all : ∀ c ∈ pre, (rs z n c).isSome = true
theorem WI.same {oa : Option Addr} {n ca : Nat} {z : Nat → Zon} {gt : Nat} {X A B : World} {pre : List Nat} (h : WI oa n ca z gt X pre A) (hs : SameC X.heap.size A B) : WI oa n ca z gt X pre B := by
  obtain ⟨⟨T', ht⟩, hl, ha⟩ := h
  exact ⟨⟨T', ⟨hs.block _ _ ht.row rfl⟩⟩, hl.trans ⟨hs.os, hs.tape, hs.output, hs.size, fun k hk hp => hs.low k hp.1 hk⟩, ha⟩
/-- a round of Wrong that finds the zone -/
structure WX (n : Nat) (z : Nat → Zon) (gt g2 g3 : Nat) (X : World) (pre : List Nat) (A : World) : Prop where
  fnd : ∃ (q : List Nat) (k : Nat), pre = q ++ [k] ∧ k < n ∧ rs z n k = none ∧ (∀ c ∈ q, (rs z n c).isSome = true) ∧ Box g2 #[.int .i64 k] 3 A ∧ Box g3 #[.int .i64 0] 25 A
  low : Same (fun b => b < X.heap.size ∧ b ≠ gt ∧ b ≠ g2 ∧ b ≠ g3) X A
theorem WX.same {n : Nat} {z : Nat → Zon} {gt g2 g3 : Nat} {X A B : World} {pre : List Nat} (h : WX n z gt g2 g3 X pre A) (hs : SameC X.heap.size A B) : WX n z gt g2 g3 X pre B := by
  obtain ⟨⟨q, k, h1, h2, h3, h4, h5, h6⟩, hl⟩ := h
  exact ⟨⟨q, k, h1, h2, h3, h4, ⟨hs.block _ _ h5.row rfl⟩, ⟨hs.block _ _ h6.row rfl⟩⟩, hl.trans ⟨hs.os, hs.tape, hs.output, hs.size, fun k hk hp => hs.low k hp.1 hk⟩⟩
abbrev wAct (oa : Option Addr) (n ca gt bt g2 g3 g7 b5 : Nat) (tv zv : Value) (x : Nat) : Act := { tmps := List.toArray ((.slice oa n ca : Value) :: undef :: .pointer (some ⟨g2, 0, none⟩) :: .pointer (some ⟨g3, 0, none⟩) :: .pointer (some ⟨bt, 0, none⟩) :: .pointer (some ⟨b5, 0, none⟩) :: .slice oa n ca :: .bool true :: .bool false :: .slice oa n ca :: tv :: .pointer (some ⟨gt, 0, none⟩) :: .slice oa n ca :: .func (.func 66) #[] #[.pointer (some ⟨g7, 0, none⟩)] :: .int .i64 x :: zv :: undef :: undef :: undef :: undef :: []), defers := [] }
set_option maxRecDepth 100000 in
set_option maxHeartbeats 8000000 in
theorem wrong_any (oa : Option Addr) (n ca : Nat) (z : Nat → Zon) (w : World) (hn : n ≤ 1000000) (hA : ZonsAt w oa n z) :
    Calls Try.prog 15 #[.slice oa n ca] w (WrongP n z w) := by
  have HA := Lib.hid hA
  have HLI := Lib.hid (fun (V : World) (hV : Below w.heap.size w V) => isList_any oa n ca z V hn (hA.mono hV))
  clear hA
  refine calls_of_wpAt Try.func15 rfl ?_
  simp only [Try.ntmps15, List.size_toArray, List.length_cons, List.length_nil, Nat.reduceAdd, Nat.reduceSub, Array.replicate_succ, Array.replicate_zero, List.push_toArray, List.append_toArray, List.nil_append, List.cons_append]
  refine wpAt_seq (wpAt_wp ?_)
  go_wp2_with fail
  have hb0 := (below_alloc1 w (.cells #[.int .i64 0] 3)).alloc (by simp) (.cells #[.int .i64 0] 25)
  have hS2 := (Box.new (g := w.heap.size) #[.int .i64 0] 3 w rfl).old (.cells #[.int .i64 0] 25)
  have hS3 := Box.new (g := w.heap.size + 1) #[.int .i64 0] 25 (w.alloc (.cells #[.int .i64 0] 3)) (by simp)
  obtain ⟨W, hW⟩ : ∃ X, X = (w.alloc (.cells #[.int .i64 0] 3)).alloc (.cells #[.int .i64 0] 25) := ⟨_, rfl⟩
  rw [← hW] at hb0 hS2 hS3 ⊢
  clear hW
  obtain ⟨g3, hg3⟩ : ∃ G, G = w.heap.size + 1 := ⟨_, rfl⟩
  obtain ⟨g2, hg2⟩ : ∃ G, G = w.heap.size := ⟨_, rfl⟩
  rw [← hg3] at hS3 ⊢
  rw [← hg2] at hS2 ⊢
  have HG2 := Lib.hid (show w.heap.size ≤ g2 ∧ w.heap.size ≤ g3 ∧ g2 ≠ g3 by omega)
  clear hg2 hg3
  refine wpAt_seq (wpAt_wp ?_)
  go_wp2_with fail
  refine (HLI.out _ hb0).mono ?_
  rintro e w1 ⟨rfl, hb1⟩
  have HB1 := Lib.hid (hb0.trans (hb1.mono hb0.size))
  have HS2 := Lib.hid (hS2.below hb1)
  have HS3 := Lib.hid (hS3.below hb1)
  clear hb1 hb0 hS2 hS3 HLI W
  cases hlb : listB n z
  · have HLB := Lib.hid hlb
    clear hlb
    have c2 := HS2.out.cell 0 (v := .int .i64 0) rfl
    have f2 := HS2.out.frozen 0
    have l2 := HS2.out.lt
    have c3 := HS3.out.cell 0 (v := .int .i64 0) rfl
    have f3 := HS3.out.frozen 0
    have l3 := HS3.out.lt
    have hne := HG2.out.2.2
    go_wp2_with fail
    refine leave_plain (.inl rfl) (res325 rfl _ _ g2 g3 0 1 rfl rfl ((HS2.out.set 0 _).other hne 0 _) ((HS3.out.other (Ne.symm hne) 0 _).set 0 _)) ⟨(HB1.out.setCell HG2.out.1 _).setCell HG2.out.2.1 _, .inl ⟨HLB.out, rfl⟩⟩
  · have HLB := Lib.hid hlb
    obtain ⟨hn1, hn2, hz, hok⟩ := listB_spec hlb
    have HZ := Lib.hid hz
    have HOK := Lib.hid hok
    clear hlb hz hok
    go_wp2_with fail
    refine wpAt_seq (wpAt_wp ?_)
    go_wp2_with fail
    have hb2 := (below_alloc1 w1 (.cells #[.slice oa n ca, .int .i64 0, .int .i64 0, .int .i64 0, .int .i64 0, .int .i64 0, .int .i64 0, .int .i64 0, .int .i64 0, .int .i64 0, .int .i64 0, .int .i64 0, .int .i64 0, .int .i64 0, .int .i64 0, .int .i64 0, .int .i64 0, .int .i64 0, .int .i64 0, .int .i64 0, .int .i64 0, .int .i64 0, .int .i64 0, .int .i64 0, .int .i64 0] 66)).alloc (by simp) (.cells #[.pointer (some ⟨w1.heap.size, 0, none⟩)] 63)
    have hBT := Box.new (g := w1.heap.size + 1) #[.pointer (some ⟨w1.heap.size, 0, none⟩)] 63 (w1.alloc (.cells #[.slice oa n ca, .int .i64 0, .int .i64 0, .int .i64 0, .int .i64 0, .int .i64 0, .int .i64 0, .int .i64 0, .int .i64 0, .int .i64 0, .int .i64 0, .int .i64 0, .int .i64 0, .int .i64 0, .int .i64 0, .int .i64 0, .int .i64 0, .int .i64 0, .int .i64 0, .int .i64 0, .int .i64 0, .int .i64 0, .int .i64 0, .int .i64 0, .int .i64 0] 66)) (by simp)
    have hBX := (Box.new (g := w1.heap.size) #[.slice oa n ca, .int .i64 0, .int .i64 0, .int .i64 0, .int .i64 0, .int .i64 0, .int .i64 0, .int .i64 0, .int .i64 0, .int .i64 0, .int .i64 0, .int .i64 0, .int .i64 0, .int .i64 0, .int .i64 0, .int .i64 0, .int .i64 0, .int .i64 0, .int .i64 0, .int .i64 0, .int .i64 0, .int .i64 0, .int .i64 0, .int .i64 0, .int .i64 0] 66 w1 rfl).old (.cells #[.pointer (some ⟨w1.heap.size, 0, none⟩)] 63)
    obtain ⟨X, hX⟩ : ∃ X, X = (w1.alloc (.cells #[.slice oa n ca, .int .i64 0, .int .i64 0, .int .i64 0, .int .i64 0, .int .i64 0, .int .i64 0, .int .i64 0, .int .i64 0, .int .i64 0, .int .i64 0, .int .i64 0, .int .i64 0, .int .i64 0, .int .i64 0, .int .i64 0, .int .i64 0, .int .i64 0, .int .i64 0, .int .i64 0, .int .i64 0, .int .i64 0, .int .i64 0, .int .i64 0, .int .i64 0] 66)).alloc (.cells #[.pointer (some ⟨w1.heap.size, 0, none⟩)] 63) := ⟨_, rfl⟩
    rw [← hX] at hb2 hBT hBX ⊢
    clear hX
    have hBX : Box w1.heap.size (towC (.slice oa n ca) T0) 66 X := hBX
    obtain ⟨bt, hbt⟩ : ∃ G, G = w1.heap.size + 1 := ⟨_, rfl⟩
    rw [← hbt] at hBT ⊢
    obtain ⟨gt, hgt⟩ : ∃ G, G = w1.heap.size := ⟨_, rfl⟩
    rw [← hgt] at hBT hBX ⊢
    have HGW := Lib.hid (show w.heap.size ≤ gt ∧ gt < bt ∧ g2 < gt ∧ g3 < gt by have := HB1.out.size; have := HS2.out.lt; have := HS3.out.lt; omega)
    replace HB1 := Lib.hid (HB1.out.trans (hb2.mono HB1.out.size))
    have HBT := Lib.hid hBT
    have HBX := Lib.hid hBX
    replace HS2 := Lib.hid (HS2.out.below hb2)
    replace HS3 := Lib.hid (HS3.out.below hb2)
    clear hBX hBT hb2 hbt hgt
    clear hBX
    generalize Value.agg #[Value.slice oa n ca, Value.int IntKind.i64 0, Value.int IntKind.i64 0, Value.int IntKind.i64 0, Value.int IntKind.i64 0, Value.int IntKind.i64 0, Value.int IntKind.i64 0, Value.int IntKind.i64 0, Value.int IntKind.i64 0, Value.int IntKind.i64 0, Value.int IntKind.i64 0, Value.int IntKind.i64 0, Value.int IntKind.i64 0, Value.int IntKind.i64 0, Value.int IntKind.i64 0, Value.int IntKind.i64 0, Value.int IntKind.i64 0, Value.int IntKind.i64 0, Value.int IntKind.i64 0, Value.int IntKind.i64 0, Value.int IntKind.i64 0, Value.int IntKind.i64 0, Value.int IntKind.i64 0, Value.int IntKind.i64 0, Value.int IntKind.i64 0] = tv
    clear w1
    refine wpAt_seq (wpAt_seq (wpAt_wp ?_))
    go_wp2_with fail
    refine (backward_any oa n ca _).mono ?_
    rintro e X6 ⟨rfl, hX6⟩
    have hb1 := below_alloc1 X (.cells #[.slice oa n ca] 22)
    have hB7 := Box.new (g := X.heap.size) #[.slice oa n ca] 22 X rfl
    rw [← hX6] at hb1 hB7
    clear hX6
    obtain ⟨g7, hg7⟩ : ∃ G, G = X.heap.size := ⟨_, rfl⟩
    rw [← hg7] at hB7 ⊢
    have HG7 := Lib.hid (show bt < g7 by have := HBT.out.lt; omega)
    replace HB1 := Lib.hid (HB1.out.trans (hb1.mono HB1.out.size))
    replace HBT := Lib.hid (HBT.out.below hb1)
    replace HBX := Lib.hid (HBX.out.below hb1)
    replace HS2 := Lib.hid (HS2.out.below hb1)
    replace HS3 := Lib.hid (HS3.out.below hb1)
    have H7 := Lib.hid hB7
    clear hb1 hB7 hg7 X
    go_wp2_with fail
    have HSEQ := Lib.hid (back_seq oa n ca z g7 (fun b => b < X6.heap.size ∧ b ≠ gt) w X6 HA.out (by omega) (fun b hb => by
      have h1 := HGW.out
      have h3 := HB1.out.size
      exact ⟨by omega, by omega⟩) (by
      have h1 := HGW.out
      have h2 := HG7.out
      exact ⟨H7.out.lt, by omega⟩) HB1.out H7.out 7 (by omega))
    have HI0 := Lib.hid (show WI oa n ca z gt X6 [] X6 from ⟨⟨T0, HBX.out⟩, Same.refl _ _, fun c hc => by simp at hc⟩)
    have HGX := Lib.hid (show gt < X6.heap.size ∧ bt < X6.heap.size ∧ g2 < X6.heap.size ∧ g3 < X6.heap.size from ⟨HBX.out.lt, HBT.out.lt, HS2.out.lt, HS3.out.lt⟩)
    clear H7
    refine wpAt_block ?_
    refine wpAt_rangeFunc_Q (α := {c : Nat // c < n}) ⟨_, Try.func15⟩ (gf := 66) (lb := #[.pointer (some ⟨g7, 0, none⟩)]) rfl (enters_of Try.func66 (by kernel_rfl) rfl)
      (SeqQP.sub HSEQ.out) (Below.refl _ _) (fun k hk => hk.1) (fun _ => rfl)
      (fun xs A => WI oa n ca z gt X6 (xs.map (fun c : {c : Nat // c < n} => c.val)) A) (fun c xs A => c = .ret ∧ WX n z gt g2 g3 X6 (xs.map (fun c : {c : Nat // c < n} => c.val)) A) (fun _ _ _ => False)
      (fun s A X h hs => h.same hs) (fun c s A X h hs => ⟨h.1, h.2.same hs⟩) HI0.out
      (fun pre x a' A => WI oa n ca z gt X6 (pre.map (fun c : {c : Nat // c < n} => c.val)) A ∧ ∃ b5, X6.heap.size ≤ b5 ∧ Box b5 #[.int .i64 x.val] 3 A ∧ a' = wAct oa n ca gt bt g2 g3 g7 b5 tv (z x.val).val x.val)
      (fun pre x a' A l o hl ho h => ⟨h.1.same (.of_put ho hl _), by
        obtain ⟨b5, h1, h2, h3⟩ := h.2
        exact ⟨b5, h1, ⟨(SameC.of_put (n := 0) ho (Nat.zero_le _) o).block _ _ h2.row rfl⟩, h3⟩⟩)
      ?assign ?body ?done ?stop ?pan
    case assign =>
      intro l pre x A K hl hlW hI hlen hK
      have HKK := Lib.hid hK
      clear hK
      gi_wp2
      have hsA : SameC X6.heap.size A (A.alloc (.cells #[.int .i64 x.val] 3)) := .of_below (below_alloc1 A _)
      exact HKK.out _ _ ((Same.refl _ _).alloc _) ⟨hI.same hsA, A.heap.size, by omega, Box.new _ 3 A rfl, rfl⟩
    case body =>
      rintro l pre x a' A hl ⟨rr, hrr⟩ ⟨hI, b5, hb5, hbox5, rfl⟩ hlen
      have hAS := (Array.getElem?_eq_some_iff.1 hrr).1
      subst hl
      obtain ⟨x, hx⟩ := x
      obtain ⟨PR, hPR⟩ : ∃ PR, PR = pre.map (fun c : {c : Nat // c < n} => c.val) := ⟨_, rfl⟩
      have HPX := Lib.hid (show List.map (fun c : {c : Nat // c < n} => c.val) (pre ++ [(⟨x, hx⟩ : {c : Nat // c < n})]) = PR ++ [x] by rw [hPR]; simp)
      rw [← hPR] at hI
      obtain ⟨⟨T1, hbt⟩, hsm, hall⟩ := hI
      have HALL := Lib.hid hall
      have HSM := Lib.hid hsm
      have HX := Lib.hid hx
      have HBA := Lib.hid hbt
      have HB5 := Lib.hid hbox5
      have HLA := Lib.hid (show Below w.heap.size w A from HB1.out.trans (hsm.below HB1.out.size fun k hk => by
        have h1 := HGW.out
        have h3 := HB1.out.size
        exact ⟨by omega, by omega⟩))
      have hgx := HGX.out
      have hgw := HGW.out
      have HBTA := Lib.hid (show Box bt #[.pointer (some ⟨gt, 0, none⟩)] 63 A from ⟨(hsm.block bt hgx.2.1 ⟨hgx.2.1, by omega⟩).trans HBT.out.row⟩)
      have HS2A := Lib.hid (show Box g2 #[.int .i64 0] 3 A from ⟨(hsm.block g2 hgx.2.2.1 ⟨hgx.2.2.1, by omega⟩).trans HS2.out.row⟩)
      have HS3A := Lib.hid (show Box g3 #[.int .i64 0] 25 A from ⟨(hsm.block g3 hgx.2.2.2 ⟨hgx.2.2.2, by omega⟩).trans HS3.out.row⟩)
      have hb5x : Box b5 #[.int .i64 x] 3 A := hbox5
      have HTR := Lib.hid (try_any 42 #[.pointer (some ⟨bt, 0, none⟩), .pointer (some ⟨b5, 0, none⟩)] (enters_of Try.func42 (by kernel_rfl) rfl) gt A (fun V => (rs z n x).isSome = true ∧ ∃ T', Box gt (towC (.slice oa n ca) T') 66 V) (fun V => rs z n x = none ∧ ∃ T', Box gt (towC (.slice oa n ca) T') 66 V) hbt.lt (fun V hV => (wrong1_any oa n ca z w gt bt b5 x T1 V HA.out hn2 HZ.out HOK.out HGW.out.1 hx (HLA.out.trans (hV.mono HLA.out.size)) (HBA.out.below hV) (HBTA.out.below hV) (hb5x.below hV)).mono fun e V' hh => ⟨hh.1, hh.2⟩))
      have HNE := Lib.hid (show X6.heap.size ≤ b5 ∧ b5 < A.heap.size from ⟨hb5, hbox5.lt⟩)
      clear hrr hPR hall hsm hbt hbox5 hb5 hb5x hgx hgw
      unfold wAct
      refine wpIn_block ?_
      refine wpIn_seq ?_
      refine wpIn_round_lit (by kernel_rfl) (by rintro ⟨a, w, h⟩; exact h) ?_
      go_wp2_with fail
      refine HTR.out.mono ?_
      rintro e w4 ⟨w3, hs3, hs4, ⟨rfl, hsx, T', ht⟩ | ⟨rfl, hnx, T', ht⟩⟩
      · have hgx := HGX.out
        have hne := HNE.out
        have HB4 := Lib.hid (show Box gt (towC (.slice oa n ca) T') 66 w4 from ⟨(hs4.block gt ht.lt (by omega)).trans ht.row⟩)
        have HS4 := Lib.hid (show Same (fun b => b < X6.heap.size + 2 ∧ b ≠ gt) A w4 from (hs3.mono fun k _ h => h.2).trans (hs4.mono fun k _ h => by omega))
        have HSX := Lib.hid hsx
        clear hs3 hs4 ht hsx HTR
        go_wp2_with fail
        gi_wp2_with fail
        refine ⟨HS4.out.mono fun k _ hk => ?_, ?_⟩
        · rcases hk with hk | rfl | rfl
          · exact ⟨by omega, hk.2⟩
          · exact ⟨by omega, by omega⟩
          · exact ⟨by omega, by omega⟩
        · show WI oa n ca z gt X6 (List.map (fun c : {c : Nat // c < n} => c.val) (pre ++ [⟨x, hx⟩])) w4
          rw [HPX.out]
          refine ⟨⟨T', HB4.out⟩, HSM.out.trans (HS4.out.mono fun k _ hk => ⟨by omega, hk.2⟩), fun c hc => ?_⟩
          rcases List.mem_append.1 hc with hc | hc
          · exact HALL.out c hc
          · rw [List.mem_singleton] at hc; subst hc; exact HSX.out
      · have hgx := HGX.out
        have hne := HNE.out
        have hgw := HGW.out
        have hg2 := HG2.out
        have HS4 := Lib.hid (show Same (fun b => b < A.heap.size ∧ b ≠ gt) A w4 from (hs3.mono fun k _ h => h.2).trans (hs4.mono fun k _ h => by omega))
        have HB5W := Lib.hid (show Box b5 #[.int .i64 x] 3 w4 from ⟨(HS4.out.block b5 hne.2 ⟨hne.2, by omega⟩).trans HB5.out.row⟩)
        have HS2W := Lib.hid (show Box g2 #[.int .i64 0] 3 w4 from ⟨(HS4.out.block g2 HS2A.out.lt ⟨HS2A.out.lt, by omega⟩).trans HS2A.out.row⟩)
        have HS3W := Lib.hid (show Box g3 #[.int .i64 0] 25 w4 from ⟨(HS4.out.block g3 HS3A.out.lt ⟨HS3A.out.lt, by omega⟩).trans HS3A.out.row⟩)
        have HNX := Lib.hid hnx
        clear hs3 hs4 ht hnx HTR
        have c5 := HB5W.out.cell 0 (v := .int .i64 x) rfl
        have c2 := HS2W.out.cell 0 (v := .int .i64 0) rfl
        have f2 := HS2W.out.frozen 0
        have l2 := HS2W.out.lt
        have c3 := HS3W.out.cell 0 (v := .int .i64 0) rfl
        have f3 := HS3W.out.frozen 0
        have l3 := HS3W.out.lt
        have hne23 := hg2.2.2
        go_wp2_with fail
        gi_wp2_with fail
        refine ⟨((HS4.out.mono (q := fun b => b = X6.heap.size ∨ b = X6.heap.size + 1) fun k _ hk => ⟨by omega, by omega⟩).setCell (by rintro (h9 | h9) <;> dsimp only at h9 <;> omega) _).setCell (by rintro (h9 | h9) <;> dsimp only at h9 <;> omega) _, rfl, ?_⟩
        show WX n z gt g2 g3 X6 (List.map (fun c : {c : Nat // c < n} => c.val) (pre ++ [⟨x, hx⟩])) _
        rw [HPX.out]
        refine ⟨⟨PR, x, rfl, HX.out, HNX.out, HALL.out, (HS2W.out.set 0 _).other hne23 0 _, (HS3W.out.other (Ne.symm hne23) 0 _).set 0 _⟩, ?_⟩
        exact (((HSM.out.mono (q := fun b => b < X6.heap.size ∧ b ≠ gt ∧ b ≠ g2 ∧ b ≠ g3) fun k _ hk => ⟨hk.1, hk.2.1⟩).trans (HS4.out.mono fun k _ hk => ⟨by omega, hk.2.1⟩)).setCell (fun h9 => absurd rfl h9.2.2.1) _).setCell (fun h9 => absurd rfl h9.2.2.2) _
    case done =>
      rintro D xs A hD hxs hI hK
      have hxs : xs.map (fun c : {c : Nat // c < n} => c.val) = revTo n 0 := hxs
      rw [hxs] at hI
      obtain ⟨⟨T1, hbt⟩, hsm, hall⟩ := hI
      have hgx := HGX.out
      have hgw := HGW.out
      have HALL := Lib.hid (show AllR z n from fun i hi => hall i (mem_revTo.2 ⟨Nat.zero_le _, hi⟩))
      have HS2A := Lib.hid (show Box g2 #[.int .i64 0] 3 A from ⟨(hsm.block g2 hgx.2.2.1 ⟨hgx.2.2.1, by omega⟩).trans HS2.out.row⟩)
      have HS3A := Lib.hid (show Box g3 #[.int .i64 0] 25 A from ⟨(hsm.block g3 hgx.2.2.2 ⟨hgx.2.2.2, by omega⟩).trans HS3.out.row⟩)
      have HLA := Lib.hid (show Below w.heap.size w A from HB1.out.trans (hsm.below HB1.out.size fun k hk => by
        have h3 := HB1.out.size
        exact ⟨by omega, by omega⟩))
      have HK := Lib.hid hK
      have hDn : D ≠ g2 ∧ D ≠ g3 := ⟨by omega, by omega⟩
      have hX := HB1.out.size
      clear hK hsm hall hbt hxs
      have c2 := HS2A.out.cell 0 (v := .int .i64 0) rfl
      have f2 := HS2A.out.frozen 0
      have l2 := HS2A.out.lt
      have c3 := HS3A.out.cell 0 (v := .int .i64 0) rfl
      have f3 := HS3A.out.frozen 0
      have l3 := HS3A.out.lt
      have hne23 := HG2.out.2.2
      refine (show wpAt 15 8 _ _ _ _ _ from wpAt_wp ?_)
      dsimp only
      go_wp2_with fail
      have hK9 : ((A.setCell ⟨g2, 0, none⟩ (.int .i64 0)).setCell ⟨g3, 0, none⟩ (.int .i64 4)).heap[D]? = some (.deferred (some [])) := by
        rw [Below.heap_setCell _ _ _ _ hDn.2, Below.heap_setCell _ _ _ _ hDn.1]; exact HK.out
      have h29 := (HS2A.out.set 0 (.int .i64 0)).other hne23 0 (.int .i64 4)
      have h39 := (HS3A.out.other (Ne.symm hne23) 0 (.int .i64 0)).set 0 (.int .i64 4)
      have hl9 := (HLA.out.setCell (p := ⟨g2, 0, none⟩) HG2.out.1 (.int .i64 0)).setCell (p := ⟨g3, 0, none⟩) HG2.out.2.1 (.int .i64 4)
      refine leave_mark (.inl rfl) hK9 (res325 rfl _ _ g2 g3 0 4 rfl rfl ⟨(World.putObj_heap_other (Ne.symm hDn.1)).trans h29.row⟩ ⟨(World.putObj_heap_other (Ne.symm hDn.2)).trans h39.row⟩) ⟨?_, .inr (.inl ⟨HLB.out, HALL.out, rfl⟩)⟩
      exact ⟨hl9.os, hl9.tape, hl9.output, by simpa using hl9.size, fun k hk => (World.putObj_heap_other (by omega)).trans (hl9.block k hk)⟩
    case stop =>
      rintro D c pre A hD ⟨k, hk, hpre⟩ ⟨rfl, hX⟩ hK
      have hpre : pre.map (fun c : {c : Nat // c < n} => c.val) = revTo n k := hpre
      obtain ⟨⟨q, k2, h1, h2, h3, h4, h5, h6⟩, hl⟩ := hX
      rw [hpre, ← revTo_step hk] at h1
      have hqe := List.append_inj' h1 rfl
      have e2 : k = k2 := by simpa using hqe.2
      subst e2
      have hgx := HGX.out
      have hgw := HGW.out
      have hDn : D ≠ g2 ∧ D ≠ g3 := ⟨by omega, by omega⟩
      have hX9 := HB1.out.size
      have hLA : Below w.heap.size w A := HB1.out.trans (hl.below HB1.out.size fun k hk => by
        have h9 := HG2.out
        exact ⟨by omega, by omega, by omega, by omega⟩)
      gi_wp2_with fail
      refine leave_mark (.inl rfl) hK (res325 rfl _ _ g2 g3 k 0 rfl rfl ⟨(World.putObj_heap_other (Ne.symm hDn.1)).trans h5.row⟩ ⟨(World.putObj_heap_other (Ne.symm hDn.2)).trans h6.row⟩) ⟨?_, .inr (.inr ⟨HLB.out, k, hk, h3, fun j hj hjn => h4 j (by rw [← hqe.1]; exact mem_revTo.2 ⟨by omega, hjn⟩), rfl⟩)⟩
      exact ⟨hLA.os, hLA.tape, hLA.output, by simpa using hLA.size, fun k hk => (World.putObj_heap_other (by omega)).trans (hLA.block k hk)⟩
    case pan =>
      rintro D ch pre A hD hS h
      exact h.elim
end Go.Proofs.Ytipnaeijbbbdoaa
