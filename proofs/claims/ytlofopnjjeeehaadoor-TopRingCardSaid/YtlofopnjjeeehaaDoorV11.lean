/- Travel: Convict. -/
import Derived.Test.YtlofopnjjeeehaaDoorV10
import Derived.Laws.EntriesVeiled
import Derived.TacticsInMore
namespace Go.Proofs.YtlofopnjjeeehaaDoor
open Go.RowKit
attribute [local go_sem] Oper.semAt_some
set_option maxHeartbeats 400000 in
theorem suspects_any (r : Rnd) (oa : Option Addr) (ca : Nat) (w : World) :
    Calls Tryd.prog 17 #[r.val oa ca] w fun e w' => e = .returned (.func (.func 33) #[] #[.pointer (some ⟨w.heap.size, 0, none⟩)]) ∧ w' = w.alloc (.cells #[.int .i64 r.nb, .int .i64 r.nm, .int .i64 r.most, .slice oa r.n ca] 29) := by
  go_enter Tryd.func17, Tryd.ntmps17
  go_wp2
  go_ret
  exact ⟨rfl, rfl⟩
theorem Rnd.susp_pre (r : Rnd) {a : Nat} : ∀ {b : Nat}, a ≤ b → ∃ t, r.susp b = r.susp a ++ t
  | 0, h => ⟨[], by obtain rfl : a = 0 := (by omega); simp⟩
  | b + 1, h => by
    by_cases h9 : a = b + 1
    · subst h9; exact ⟨[], by simp⟩
    · obtain ⟨t, ht⟩ := Rnd.susp_pre r (a := a) (b := b) (by omega)
      cases ho : okT (r.D b)
      · exact ⟨t, by rw [Rnd.susp_none ho, ht]⟩
      · exact ⟨t ++ [b], by rw [Rnd.susp_some ho, ht, List.append_assoc]⟩
theorem wp_only_normal {P : Program} {c : Code} {Q : Exit → Act → World → Prop} {a : Act} {w : World} (h : c.wp P (fun e a w => match e with | .normal => Q .normal a w | _ => False) a w) : c.wp P Q a w :=
  Code.wp_mono (fun e a w h => by cases e <;> first | exact h | exact h.elim) h
/-- which bench is convicted, by what is suspected -/
def pickS : List Nat → Int × Int
  | [] => (0, 11)
  | [b] => ((b : Nat), 0)
  | _ => (0, 12)
theorem pickS_two {l : List Nat} (h : 2 ≤ l.length) : pickS l = (0, 12) := by
  rcases l with _ | ⟨a, _ | ⟨b, l⟩⟩
  · simp at h
  · simp at h
  · rfl
/-- the frame of Convict's rounds -/
abbrev cAct (rv tv : Value) (gr g2 g3 g9 set bx x : Nat) : Act := { tmps := #[rv, .pointer (some ⟨gr, 0, none⟩), .pointer (some ⟨g2, 0, none⟩), .pointer (some ⟨g3, 0, none⟩), .int .i64 0, .pointer (some ⟨g9, 0, none⟩), .bool false, .int .i64 x, rv, .int .i64 0, .int .i64 0, .bool false, undef, .tuple #[tv, .bool false], rv, rv, .int .i64 set, .tuple #[tv, .bool false], tv, .bool false, .bool false, rv, .func (.func 33) #[] #[.pointer (some ⟨bx, 0, none⟩)], .int .i64 x, undef, undef, undef, undef, undef], defers := [] }
def Rnd.convict (r : Rnd) : Int × Int := if r.err (-1) ≠ 0 then (0, r.err (-1)) else if okT (r.D (-1)) = true then (0, 4) else pickS (r.susp r.nb.toNat)
/-- what the rounds keep -/
structure CI (B g2 g3 : Nat) (W3 : World) (pre : List Nat) (W : World) : Prop where
  h2 : Box g2 #[.int .i64 (pickS pre).1] 3 W
  h3 : Box g3 #[.int .i64 (pickS pre).2] 39 W
  low : Same (fun b => b < B ∧ b ≠ g2 ∧ b ≠ g3) W3 W
theorem CI.same {B g2 g3 S : Nat} {W3 A X : World} {pre : List Nat} (h : CI B g2 g3 W3 pre A) (hB : B ≤ S) (hs : SameC S A X) : CI B g2 g3 W3 pre X :=
  ⟨⟨hs.block _ _ h.h2.row rfl⟩, ⟨hs.block _ _ h.h3.row rfl⟩, h.low.trans ⟨hs.os, hs.tape, hs.output, hs.size, fun k hk hp => hs.low k (by omega) hk⟩⟩
theorem Box.putObj {g l : Nat} {cs : Array Value} {t : TypeId} {A : World} (h : Box g cs t A) (hl : ∃ o' : Obj, A.heap[l]? = some o' ∧ o'.isCells = false) (o : Obj) : Box g cs t (A.putObj l o) := ⟨(SameC.of_put (n := 0) hl (Nat.zero_le _) o).block _ _ h.row rfl⟩
theorem below_putObj {B : Nat} {A W : World} (h : Below B A W) {l : Nat} (hl : B ≤ l) (o : Obj) : Below B A (W.putObj l o) :=
  ⟨h.os, h.tape, h.output, by simpa using h.size, fun k hk => (World.putObj_heap_other (by omega)).trans (h.block k hk)⟩
/-- results: two integers in cells -/
theorem res2 {fn : Func} {p q : Tmp} (h : fn.results = #[.cell p 3, .cell q 39]) (tmps : Array Value) (w : World) (g g' : Nat) (a b : Int) (hp : tmps.getD p undef = .pointer (some ⟨g, 0, none⟩)) (hq : tmps.getD q undef = .pointer (some ⟨g', 0, none⟩)) (hB : Box g #[.int .i64 a] 3 w) (hB' : Box g' #[.int .i64 b] 39 w) :
    (results fn tmps).run Tryd.prog w = .ok (.tuple #[.int .i64 a, .int .i64 b]) w := by
  have hp' : tmps[p]?.getD undef = .pointer (some ⟨g, 0, none⟩) := by simpa using hp
  have hq' : tmps[q]?.getD undef = .pointer (some ⟨g', 0, none⟩) := by simpa using hq
  have c1 := hB.cell 0 (v := .int .i64 a) rfl
  have c2 := hB'.cell 0 (v := .int .i64 b) rfl
  unfold results
  simp only [h]
  simp [hp', hq', asAddr, c1, c2, go_sem]
set_option maxRecDepth 100000 in
set_option maxHeartbeats 8000000 in
theorem convict_any (r : Rnd) (oa : Option Addr) (ca : Nat) (w : World) (hn : r.n ≤ 1000000) (hT : TabAt 1 Lib.deBruijn64tab w) (hw1 : 1 < w.heap.size) (hA : TrpsAt w oa r.n r.t) :
    Calls Tryd.prog 7 #[r.val oa ca] w fun e w' => e = .returned (.tuple #[.int .i64 r.convict.1, .int .i64 r.convict.2]) ∧ Below w.heap.size w w' := by
  have HA := Lib.hid hA
  have HT := Lib.hid hT
  have HW1 := Lib.hid hw1
  clear hA hT hw1
  refine calls_of_wp_marks Tryd.func7 rfl ?_
  simp only [Tryd.ntmps7, List.size_toArray, List.length_cons, List.length_nil, Nat.reduceAdd, Nat.reduceSub, Array.replicate_succ, Array.replicate_zero, List.push_toArray, List.append_toArray, List.nil_append, List.cons_append]
  go_wp2_with fail
  have hb0 := ((below_alloc1 w (.cells #[.int .i64 r.nb, .int .i64 r.nm, .int .i64 r.most, .slice oa r.n ca] 29)).alloc (by simp) (.cells #[.int .i64 0] 3)).alloc (by simp; omega) (.cells #[.int .i64 0] 39)
  have hB := ((Box.new (g := w.heap.size) #[.int .i64 r.nb, .int .i64 r.nm, .int .i64 r.most, .slice oa r.n ca] 29 w rfl).old (.cells #[.int .i64 0] 3)).old (.cells #[.int .i64 0] 39)
  have hS2 := (Box.new (g := w.heap.size + 1) #[.int .i64 0] 3 (w.alloc (.cells #[.int .i64 r.nb, .int .i64 r.nm, .int .i64 r.most, .slice oa r.n ca] 29)) (by simp)).old (.cells #[.int .i64 0] 39)
  have hS3 := Box.new (g := w.heap.size + 2) #[.int .i64 0] 39 ((w.alloc (.cells #[.int .i64 r.nb, .int .i64 r.nm, .int .i64 r.most, .slice oa r.n ca] 29)).alloc (.cells #[.int .i64 0] 3)) (by simp)
  obtain ⟨W, hW⟩ : ∃ X, X = ((w.alloc (.cells #[.int .i64 r.nb, .int .i64 r.nm, .int .i64 r.most, .slice oa r.n ca] 29)).alloc (.cells #[.int .i64 0] 3)).alloc (.cells #[.int .i64 0] 39) := ⟨_, rfl⟩
  rw [← hW] at hb0 hB hS2 hS3 ⊢
  clear hW
  have e2 : w.heap.size + 1 + 1 = w.heap.size + 2 := rfl
  rw [e2]
  obtain ⟨g3, hg3⟩ : ∃ G, G = w.heap.size + 2 := ⟨_, rfl⟩
  obtain ⟨g2, hg2⟩ : ∃ G, G = w.heap.size + 1 := ⟨_, rfl⟩
  rw [← hg3] at hS3 ⊢
  rw [← hg2] at hS2 ⊢
  obtain ⟨gr, hgr⟩ : ∃ G, G = w.heap.size := ⟨_, rfl⟩
  rw [← hgr] at hB ⊢
  have HG2 := Lib.hid (show w.heap.size ≤ g2 by omega)
  have HG3 := Lib.hid (show w.heap.size ≤ g3 by omega)
  have HN23 := Lib.hid (show g2 ≠ g3 by omega)
  have HNR := Lib.hid (show gr ≠ g2 ∧ gr ≠ g3 by omega)
  clear hg2 hg3 hgr e2
  refine (check_any r oa ca (-1) _ hn (HA.out.mono hb0)).mono ?_
  rintro e w1 ⟨rfl, hb1⟩
  have HB2 := Lib.hid (hB.below hb1)
  have HS2 := Lib.hid (hS2.below hb1)
  have HS3 := Lib.hid (hS3.below hb1)
  have HL := Lib.hid (hb0.trans (hb1.mono hb0.size))
  clear hB hb1 hb0 hS2 hS3
  by_cases he : r.err (-1) = 0
  · rw [he]
    have hv := (Rnd.err_zero he).1
    have HCV := Lib.hid (show r.convict = if okT (r.D (-1)) = true then (0, 4) else pickS (r.susp r.nb.toNat) by unfold Rnd.convict; rw [if_neg (by rw [he]; simp)])
    have HV := Lib.hid hv
    have HV14 := Lib.hid (Rnd.valid_head hv).2.2.2
    obtain ⟨TAB, hTAB⟩ : ∃ X, X = r.D (-1) := ⟨_, rfl⟩
    have HTAB := Lib.hid (show r.tab (-1) (2 ^ r.n - 1) = TAB from hTAB.symm)
    rw [← hTAB] at HCV
    clear he hv hTAB
    go_wp2_with fail

    have hCC : ∀ A B : World, Below w1.heap.size w1 A → Below A.heap.size A B → Below w1.heap.size w1 B := fun A B h1 h2 => h1.trans (h2.mono h1.size)
    have hC0 : Below w1.heap.size w1 w1.drew := (Below.refl _ _).drew
    refine wp_only_normal ?_
    refine wp_region_garb (fun A => Below w1.heap.size w1 A) (by kernel_rfl) ?_
    (refine wpAnyG_take (i := 0) hCC hC0 rfl (by kernel_rfl) (by kernel_rfl) (by kernel_rfl) (fun _ _ _ _ h => h) (by rfl) ?_; apply Exists.intro; refine ⟨fun w1 h1 K hK => ?_, ?_⟩; · (have q0 : ∀ W : Aft w1, W.val.cell? ⟨gr, 0, none⟩ = some (.int .i64 r.nb) := fun W => (HB2.out.below (hCC _ _ h1 W.below)).cell 0 rfl; have q1 : ∀ W : Aft w1, W.val.cell? ⟨gr, 1, none⟩ = some (.int .i64 r.nm) := fun W => (HB2.out.below (hCC _ _ h1 W.below)).cell 1 rfl; have q2 : ∀ W : Aft w1, W.val.cell? ⟨gr, 2, none⟩ = some (.int .i64 r.most) := fun W => (HB2.out.below (hCC _ _ h1 W.below)).cell 2 rfl; have q3 : ∀ W : Aft w1, W.val.cell? ⟨gr, 3, none⟩ = some (.slice oa r.n ca) := fun W => (HB2.out.below (hCC _ _ h1 W.below)).cell 3 rfl; have q4 : ∀ W : Aft w1, gr < W.val.heap.size := fun W => (HB2.out.below (hCC _ _ h1 W.below)).lt; go_big_quiet_op; first | exact hK | fail))
    (refine wpAnyG_take (i := 1) hCC hC0 rfl (by kernel_rfl) (by kernel_rfl) (by kernel_rfl) (fun _ _ _ _ h => h) (by rfl) ?_; apply Exists.intro; refine ⟨fun w1 h1 K hK => ?_, ?_⟩; · (have q0 : ∀ W : Aft w1, W.val.cell? ⟨gr, 0, none⟩ = some (.int .i64 r.nb) := fun W => (HB2.out.below (hCC _ _ h1 W.below)).cell 0 rfl; have q1 : ∀ W : Aft w1, W.val.cell? ⟨gr, 1, none⟩ = some (.int .i64 r.nm) := fun W => (HB2.out.below (hCC _ _ h1 W.below)).cell 1 rfl; have q2 : ∀ W : Aft w1, W.val.cell? ⟨gr, 2, none⟩ = some (.int .i64 r.most) := fun W => (HB2.out.below (hCC _ _ h1 W.below)).cell 2 rfl; have q3 : ∀ W : Aft w1, W.val.cell? ⟨gr, 3, none⟩ = some (.slice oa r.n ca) := fun W => (HB2.out.below (hCC _ _ h1 W.below)).cell 3 rfl; have q4 : ∀ W : Aft w1, gr < W.val.heap.size := fun W => (HB2.out.below (hCC _ _ h1 W.below)).lt; go_big_quiet_op; first | exact hK | fail))
    (refine wpAnyG_take (i := 2) hCC hC0 rfl (by kernel_rfl) (by kernel_rfl) (by kernel_rfl) (fun _ _ _ _ h => h) (by rfl) ?_; apply Exists.intro; refine ⟨fun w1 h1 K hK => ?_, ?_⟩; · ( go_big_quiet_op; first | exact hK | exact ⟨_, fun W => aft_call (all_any r oa ca _ HV14.out), hK⟩))
    (refine wpAnyG_take (i := 3) hCC hC0 rfl (by kernel_rfl) (by kernel_rfl) (by kernel_rfl) (fun _ _ _ _ h => h) (by rfl) ?_; apply Exists.intro; refine ⟨fun w1 h1 K hK => ?_, ?_⟩; · ( go_big_quiet_op; first | exact hK | exact ⟨_, fun W => aft_call (by have h9 := bnd_any r oa ca (-1) (2 ^ r.n - 1) W.val HV.out (tab_below HT.out HW1.out (HL.out.trans ((hCC _ _ h1 W.below).mono HL.out.size))) (Nat.lt_of_lt_of_le HW1.out (HL.out.trans ((hCC _ _ h1 W.below).mono HL.out.size)).size) (HA.out.mono (HL.out.trans ((hCC _ _ h1 W.below).mono HL.out.size))) (two_pred r.n); rw [HTAB.out] at h9; exact h9), hK⟩))
    (refine wpAnyG_take (i := 4) hCC hC0 rfl (by kernel_rfl) (by kernel_rfl) (by kernel_rfl) (fun _ _ _ _ h => h) (by rfl) ?_; apply Exists.intro; refine ⟨fun w1 h1 K hK => ?_, ?_⟩; · ( go_big_quiet_op; first | exact hK | fail))
    (refine wpAnyG_take (i := 5) hCC hC0 rfl (by kernel_rfl) (by kernel_rfl) (by kernel_rfl) (fun _ _ _ _ h => h) (by rfl) ?_; apply Exists.intro; refine ⟨fun w1 h1 K hK => ?_, ?_⟩; · ( go_big_quiet_op; first | exact hK | fail))
    (refine wpAnyG_take (i := 6) hCC hC0 rfl (by kernel_rfl) (by kernel_rfl) (by kernel_rfl) (fun _ _ _ _ h => h) (by rfl) ?_; apply Exists.intro; refine ⟨fun w1 h1 K hK => ?_, ?_⟩; · ( go_big_quiet_op; first | exact hK | fail))
    (refine wpAnyG_one (i := 7) (by kernel_rfl) rfl (by rfl) (fun wa hwa K hK => ?_))
    go_simp
    refine hK _ _ ((hCC _ _ hC0 hwa).alloc (by have := hC0.size; have := hwa.size; omega) _) ?_
    clear hK K
    have s9 := Box.new (g := wa.heap.size) Tryd.zeroCells63 63 wa rfl
    have hC1 := (hCC _ _ hC0 hwa).alloc (by have := hC0.size; have := hwa.size; omega) (.cells Tryd.zeroCells63 63)
    have hg9 : w1.heap.size ≤ wa.heap.size := Nat.le_trans hC0.size hwa.size
    clear hwa
    obtain ⟨g9, hG⟩ : ∃ G, G = wa.heap.size := ⟨_, rfl⟩
    obtain ⟨wA, hWA⟩ : ∃ X, X = wa.alloc (.cells Tryd.zeroCells63 63) := ⟨_, rfl⟩
    rw [← hG] at s9 hg9 ⊢
    rw [← hWA] at s9 hC1 ⊢
    rw [z62] at s9
    clear hG hWA
    (refine wpAnyG_one (i := 8) (by kernel_rfl) rfl (by rfl) (fun wb hwb K hK => ?_))
    refine wp_store_box (s9.below hwb) rfl rfl rfl (by rw [cells13_size, cells13_size]) (by rw [cells13_size]; kernel_rfl) (cells13_one _) (fun wc s8 ho => ?_)
    dsimp only [Act.put]
    refine hK _ _ ((hCC _ _ hC1 hwb).trans (ho.below hg9)) ?_
    clear hK K
    have hC2 := (hCC _ _ hC1 hwb).trans (ho.below hg9)
    clear s9 hC1 ho hwb
    (refine wpAnyG_one (i := 9) (by kernel_rfl) rfl (by rfl) (fun wd hwd K hK => ?_))
    go_simp
    refine hK _ _ (hCC _ _ hC2 hwd) ?_
    clear hK K
    refine wpAnyG_done (by kernel_rfl) (fun wz hwz => ?_) _
    have HT9 := Lib.hid ((s8.below hwd).below hwz)
    have hz9 := hCC _ _ (hCC _ _ hC2 hwd) hwz
    clear s8 hC2 hwd hwz hC0 hCC
    dsimp only
    have HL2 := Lib.hid (HL.out.trans (hz9.mono HL.out.size))
    have HB4 := Lib.hid (HB2.out.below hz9)
    have HS4 := Lib.hid (HS2.out.below hz9)
    have HS5 := Lib.hid (HS3.out.below hz9)
    clear hz9 HS2 HS3 HB2
    have c2 := HS4.out.cell 0 rfl
    have f2 := HS4.out.frozen 0
    have l2 := HS4.out.lt
    have c3 := HS5.out.cell 0 rfl
    have f3 := HS5.out.frozen 0
    have l3 := HS5.out.lt
    have hne := HN23.out
    cases ho : okT TAB
    · have HC := Lib.hid (show r.convict = pickS (r.susp r.nb.toNat) by rw [HCV.out, if_neg (by rw [ho]; simp)])
      clear ho
      have b0 := HB4.out.cell 0 (v := .int .i64 r.nb) rfl
      have b1 := HB4.out.cell 1 (v := .int .i64 r.nm) rfl
      have b2 := HB4.out.cell 2 (v := .int .i64 r.most) rfl
      have b3 := HB4.out.cell 3 (v := .slice oa r.n ca) rfl
      have b4 := HB4.out.lt
      have hnr := HNR.out
      go_upto_region 8 with fail
      clear c2 f2 c3 f3 b0 b1 b2 b3 b4 l2 l3
      have HS6 := Lib.hid (HS5.out.set 0 (.int .i64 11))
      have HS7 := Lib.hid (HS4.out.other hne 0 (.int .i64 11))
      have HB5 := Lib.hid (HB4.out.other hnr.2 0 (.int .i64 11))
      have HL5 := Lib.hid (HL2.out.setCell (p := ⟨g3, 0, none⟩) HG3.out (.int .i64 11))
      obtain ⟨W2, hW2⟩ : ∃ X, X = wz.setCell ⟨g3, 0, none⟩ (.int .i64 11) := ⟨_, rfl⟩
      rw [← hW2] at HS6 HS7 HB5 HL5 ⊢
      clear hW2 HS4 HS5 HB4 HL2
      have b0 := HB5.out.cell 0 (v := .int .i64 r.nb) rfl
      have b1 := HB5.out.cell 1 (v := .int .i64 r.nm) rfl
      have b2 := HB5.out.cell 2 (v := .int .i64 r.most) rfl
      have b3 := HB5.out.cell 3 (v := .slice oa r.n ca) rfl
      have b4 := HB5.out.lt
      go_wp2_with fail
      refine (suspects_any r oa ca _).mono ?_
      rintro e W3 ⟨rfl, hW3⟩
      clear b0 b1 b2 b3 b4
      have zb3 := Box.new (g := W2.heap.size) #[.int .i64 r.nb, .int .i64 r.nm, .int .i64 r.most, .slice oa r.n ca] 29 W2 rfl
      have hb3 := below_alloc1 W2 (.cells #[.int .i64 r.nb, .int .i64 r.nm, .int .i64 r.most, .slice oa r.n ca] 29)
      rw [← hW3] at zb3 hb3
      have hs3 : W3.heap.size = W2.heap.size + 1 := by rw [hW3]; simp
      clear hW3
      have hl2 := HS7.out.lt
      have hl3 := HS6.out.lt
      obtain ⟨bx, hbx⟩ : ∃ n, n = W2.heap.size := ⟨_, rfl⟩
      rw [← hbx] at zb3 hs3 hl2 hl3 ⊢
      have HZ2 := Lib.hid (HS7.out.below hb3)
      have HZ3 := Lib.hid (HS6.out.below hb3)
      have HL6 := Lib.hid (HL5.out.trans (hb3.mono HL5.out.size))
      have HSEQ := Lib.hid (susp_seq r oa ca bx g2 g3 W3.heap.size w W3 HV.out HT.out HW1.out HA.out HL6.out.size (by omega) HG2.out HG3.out (by omega) (by omega) (Nat.le_refl _) HL6.out zb3 (10 - 1) (by omega))
      have HBXL := Lib.hid (show bx ≤ W3.heap.size by omega)
      have HWB := Lib.hid (show w.heap.size ≤ bx by have := HL5.out.size; omega)
      have HBX2 := Lib.hid (show g2 < W3.heap.size ∧ g3 < W3.heap.size by omega)
      clear zb3 hb3 hs3 hbx hl2 hl3 HS6 HS7 HB5 HL5
      have CI0 := Lib.hid (show CI bx g2 g3 W3 [] W3 from ⟨HZ2.out, HZ3.out, Same.refl _ _⟩)
      clear HZ2 HZ3
      go_wp2_with fail
      refine (wpIn_wide (n := 10)).1 ?_
      have hne2 := hne
      refine wpIn_rangeFunc_C (α := {b : Nat // (b : Int) < r.nb}) rfl (by omega) (gf := 33) (lb := #[.pointer (some ⟨bx, 0, none⟩)]) rfl trivial (enters_of Tryd.func33 (by kernel_rfl) rfl)
        (SeqP.sub HSEQ.out) (Same.refl _ _) (fun k hk => hk.1) (fun _ => rfl)
        (fun xs W => CI bx g2 g3 W3 (xs.map (fun z : {b : Nat // (b : Int) < r.nb} => z.val)) W ∧ xs.length ≤ 1) (fun c xs W => c = .ret ∧ 2 ≤ xs.length ∧ Box g2 #[.int .i64 0] 3 W ∧ Box g3 #[.int .i64 12] 39 W ∧ Same (fun b => b < bx ∧ b ≠ g2 ∧ b ≠ g3) W3 W)
        (fun s A X h hs => ⟨h.1.same HBXL.out hs, h.2⟩) (fun c s A X h hs => ⟨h.1, h.2.1, ⟨hs.block _ _ h.2.2.1.row rfl⟩, ⟨hs.block _ _ h.2.2.2.1.row rfl⟩, h.2.2.2.2.trans ⟨hs.os, hs.tape, hs.output, hs.size, fun k hk hp => hs.low k (Nat.lt_of_lt_of_le hp.1 HBXL.out) hk⟩⟩) ⟨CI0.out, by simp⟩
        (fun pre x a' W => CI bx g2 g3 W3 (pre.map (fun z : {b : Nat // (b : Int) < r.nb} => z.val)) W ∧ pre.length ≤ 1 ∧ a' = cAct (r.val oa ca) (.agg (cells13 TAB)) gr g2 g3 g9 (2 ^ r.n - 1) bx x.val)
        (fun pre x a' A l o hl ho h => ⟨h.1.same HBXL.out (.of_put ho hl _), h.2⟩)
        ?assign ?body ?done ?stop
      case assign =>
        intro l pre x9 W K hl hlW hi hlen hK
        have HKK := Lib.hid hK
        clear hK
        gi_wp2
        exact HKK.out _ _ (Same.refl _ _) ⟨hi.1, hi.2, rfl⟩
      case body =>
        rintro l pre x9 a' W hl ⟨rr, hrr⟩ ⟨hI, hlen1, rfl⟩ hlen
        have hb2 := HBX2.out.1
        have hb3 := HBX2.out.2
        have c2 := hI.h2.cell 0 rfl
        have f2 := hI.h2.frozen 0
        have l2 := hI.h2.lt
        have c3 := hI.h3.cell 0 rfl
        have f3 := hI.h3.frozen 0
        have l3 := hI.h3.lt
        have HI := Lib.hid hI
        clear hI hrr
        rcases pre with _ | ⟨p0, rest⟩
        · have c3 : W.cell? ⟨g3, 0, none⟩ = some (.int .i64 11) := c3
          gi_wp2_with fail
          refine ⟨((Same.refl _ _).setCell (by rintro (⟨-, h9, -⟩ | h9 | h9) <;> dsimp only at h9 <;> omega) _).setCell (by rintro (⟨-, -, h9⟩ | h9 | h9) <;> dsimp only at h9 <;> omega) _, ⟨(HI.out.h2.set 0 _).other hne 0 _, (HI.out.h3.other (Ne.symm hne) 0 _).set 0 _, (HI.out.low.setCell (fun h9 => absurd rfl h9.2.1) _).setCell (fun h9 => absurd rfl h9.2.2) _⟩, by simp⟩
        · obtain rfl : rest = [] := by
            cases rest with
            | nil => rfl
            | cons a b => simp at hlen1
          have c3 : W.cell? ⟨g3, 0, none⟩ = some (.int .i64 0) := c3
          gi_wp2_with fail
          refine ⟨((Same.refl _ _).setCell (by rintro (h9 | h9) <;> dsimp only at h9 <;> omega) _).setCell (by rintro (h9 | h9) <;> dsimp only at h9 <;> omega) _, rfl, by simp, (HI.out.h2.set 0 _).other hne 0 _, (HI.out.h3.other (Ne.symm hne) 0 _).set 0 _, (HI.out.low.setCell (fun h9 => absurd rfl h9.2.1) _).setCell (fun h9 => absurd rfl h9.2.2) _⟩
      case done =>
        rintro D xs W4 hD hxs ⟨hI, hl1⟩ hK
        have hxs : xs.map (fun z : {b : Nat // (b : Int) < r.nb} => z.val) = r.susp r.nb.toNat := hxs
        rw [hxs] at hI
        have HLZ := Lib.hid (show Below w.heap.size w W4 from ⟨hI.low.os.trans HL6.out.os, hI.low.tape.trans HL6.out.tape, hI.low.output.trans HL6.out.output, Nat.le_trans HL6.out.size hI.low.size, fun k hk => by
          have := HL6.out.size
          have := HG2.out
          have := HG3.out
          have := HWB.out
          rw [hI.low.block k (by omega) ⟨by omega, by omega, by omega⟩]
          exact HL6.out.block k hk⟩)
        have HI := Lib.hid hI
        have HK4 := Lib.hid hK
        obtain ⟨P2, hP2⟩ : ∃ P, P = pickS (r.susp r.nb.toNat) := ⟨_, rfl⟩
        have HC9 := Lib.hid (show r.convict = P2 by rw [HC.out, hP2])
        have c2 : W4.cell? ⟨g2, 0, none⟩ = some (.int .i64 P2.1) := by rw [hP2]; exact hI.h2.cell 0 rfl
        have f2 := hI.h2.frozen 0
        have l2 := hI.h2.lt
        have c3 : W4.cell? ⟨g3, 0, none⟩ = some (.int .i64 P2.2) := by rw [hP2]; exact hI.h3.cell 0 rfl
        have f3 := hI.h3.frozen 0
        have l3 := hI.h3.lt
        have HB29 := Lib.hid (show Box g2 #[.int .i64 P2.1] 3 W4 by rw [hP2]; exact hI.h2)
        have HB39 := Lib.hid (show Box g3 #[.int .i64 P2.2] 39 W4 by rw [hP2]; exact hI.h3)
        clear hI hxs hK hP2
        clear c2 f2 l2 c3 f3 l3
        go_wp2_with fail
        have hCC : ∀ A B : World, (Box g2 #[.int .i64 P2.1] 3 A ∧ Box g3 #[.int .i64 P2.2] 39 A ∧ Same (fun b => b ≠ g2 ∧ b ≠ g3) W4 A) → Below A.heap.size A B → (Box g2 #[.int .i64 P2.1] 3 B ∧ Box g3 #[.int .i64 P2.2] 39 B ∧ Same (fun b => b ≠ g2 ∧ b ≠ g3) W4 B) := fun A B h hb => ⟨h.1.below hb, h.2.1.below hb, h.2.2.trans (Same.of_below hb fun _ hk _ => hk)⟩
        have hC0 : Box g2 #[.int .i64 P2.1] 3 W4.drew ∧ Box g3 #[.int .i64 P2.2] 39 W4.drew ∧ Same (fun b => b ≠ g2 ∧ b ≠ g3) W4 W4.drew := ⟨HB29.out.drew, HB39.out.drew, (Same.refl _ _).drew⟩
        refine wp_only_normal ?_
        refine wp_region_garb (fun A => Box g2 #[.int .i64 P2.1] 3 A ∧ Box g3 #[.int .i64 P2.2] 39 A ∧ Same (fun b => b ≠ g2 ∧ b ≠ g3) W4 A) (by kernel_rfl) ?_
        (refine wpAnyG_take (i := 0) hCC hC0 rfl (by kernel_rfl) (by kernel_rfl) (by kernel_rfl) (fun _ _ _ _ h => h) (by rfl) ?_; apply Exists.intro; refine ⟨fun w1 h1 K hK => ?_, ?_⟩; · (have q0 : ∀ W : Aft w1, W.val.cell? ⟨g2, 0, none⟩ = some (.int .i64 P2.1) := fun W => (hCC _ _ h1 W.below).1.cell 0 rfl; go_big_quiet_op; first | exact hK | fail))
        (refine wpAnyG_take (i := 1) hCC hC0 rfl (by kernel_rfl) (by kernel_rfl) (by kernel_rfl) (fun _ _ _ _ h => h) (by rfl) ?_; apply Exists.intro; refine ⟨fun w1 h1 K hK => ?_, ?_⟩; · (have q0 : ∀ W : Aft w1, W.val.cell? ⟨g3, 0, none⟩ = some (.int .i64 P2.2) := fun W => (hCC _ _ h1 W.below).2.1.cell 0 rfl; go_big_quiet_op; first | exact hK | fail))
        (refine wpAnyG_one (i := 2) (by kernel_rfl) rfl (by rfl) (fun wa hwa K hK => ?_))
        have hC1 := hCC _ _ hC0 hwa
        refine wp_store_int hC1.1 rfl rfl rfl (by simp) (by kernel_rfl) (fun wb zb ho => ?_)
        dsimp only [Act.put]
        have hC2 : Box g2 #[.int .i64 P2.1] 3 wb ∧ Box g3 #[.int .i64 P2.2] 39 wb ∧ Same (fun b => b ≠ g2 ∧ b ≠ g3) W4 wb := ⟨zb, ho.box hC1.2.1 (Ne.symm hne), hC1.2.2.trans ⟨ho.os, ho.tape, ho.output, Nat.le_of_eq ho.size.symm, fun k _ hp => ho.block k hp.1⟩⟩
        refine hK _ _ hC2 ?_
        clear hK K ho zb hC1 hwa
        (refine wpAnyG_one (i := 3) (by kernel_rfl) rfl (by rfl) (fun wc hwc K hK => ?_))
        have hC3 := hCC _ _ hC2 hwc
        refine wp_store_int hC3.2.1 rfl rfl rfl (by simp) (by kernel_rfl) (fun wd zd ho => ?_)
        dsimp only [Act.put]
        have hC4 : Box g2 #[.int .i64 P2.1] 3 wd ∧ Box g3 #[.int .i64 P2.2] 39 wd ∧ Same (fun b => b ≠ g2 ∧ b ≠ g3) W4 wd := ⟨ho.box hC3.1 hne, zd, hC3.2.2.trans ⟨ho.os, ho.tape, ho.output, Nat.le_of_eq ho.size.symm, fun k _ hp => ho.block k hp.2⟩⟩
        refine hK _ _ hC4 ?_
        clear hK K ho zd hC3 hwc
        refine wpAnyG_done (by kernel_rfl) (fun we hwe => ?_) _
        obtain ⟨z1, z2, z3⟩ := hCC _ _ hC4 hwe
        have hKe : we.heap[D]? = some (.deferred (some [])) := by
          have h9 := HK4.out
          have hlt := (Array.getElem?_eq_some_iff.1 h9).1
          have := HBX2.out
          rw [z3.block D hlt ⟨by omega, by omega⟩]
          exact h9
        have HKE := Lib.hid hKe
        have HZ1 := Lib.hid z1
        have HZ2 := Lib.hid z2
        have HLE := Lib.hid (show Below w.heap.size w we from HLZ.out.trans (z3.below HLZ.out.size fun k hk => by have := HG2.out; have := HG3.out; omega))
        clear z1 z2 z3 hKe hC4 hwe hC2 hC0 hCC
        dsimp only
        go_wp2_with fail
        refine leave_mark (.inl rfl) HKE.out (res2 rfl _ _ g2 g3 P2.1 P2.2 rfl rfl (HZ1.out.putObj ⟨_, HKE.out, rfl⟩ _) (HZ2.out.putObj ⟨_, HKE.out, rfl⟩ _)) ⟨by rw [HC9.out], below_putObj HLE.out (by have := HWB.out; have := HBXL.out; omega) _⟩
      case stop =>
        rintro D c pre W hD ⟨k, hk, hpre⟩ ⟨rfl, h2, hB2, hB3, hlow⟩ hK
        have hpre : pre.map (fun z : {b : Nat // (b : Int) < r.nb} => z.val) = r.susp (k + 1) := hpre
        have HC9 := Lib.hid (show r.convict = (0, 12) by
          obtain ⟨t, ht⟩ := Rnd.susp_pre r (a := k + 1) (b := r.nb.toNat) (by omega)
          rw [HC.out, ht, ← hpre]
          refine pickS_two ?_
          simp; omega)
        have HLZ := Lib.hid (show Below w.heap.size w W from ⟨hlow.os.trans HL6.out.os, hlow.tape.trans HL6.out.tape, hlow.output.trans HL6.out.output, Nat.le_trans HL6.out.size hlow.size, fun k hk => by
          have := HL6.out.size
          have := HG2.out
          have := HG3.out
          have := HWB.out
          rw [hlow.block k (by omega) ⟨by omega, by omega, by omega⟩]
          exact HL6.out.block k hk⟩)
        gi_wp2_with fail
        refine leave_mark (.inl rfl) hK (res2 rfl _ _ g2 g3 0 12 rfl rfl (hB2.putObj ⟨_, hK, rfl⟩ _) (hB3.putObj ⟨_, hK, rfl⟩ _)) ⟨by rw [HC9.out], below_putObj HLZ.out (by have := HWB.out; have := HBXL.out; omega) _⟩
    · have HC := Lib.hid (show r.convict = (0, 4) by rw [HCV.out, if_pos ho])
      clear ho
      go_wp2
      refine leave_plain (.inl rfl) (res2 rfl _ _ g2 g3 0 4 rfl rfl ((HS4.out.set 0 _).other hne 0 _) ((HS5.out.other (Ne.symm hne) 0 _).set 0 _)) ⟨by rw [HC.out], (HL2.out.setCell HG2.out _).setCell HG3.out _⟩
  · have HC := Lib.hid (show r.convict = (0, r.err (-1)) by unfold Rnd.convict; rw [if_pos he])
    have hq : (r.err (-1) != 0) = true := by simpa using he
    have hq2 : (r.err (-1) == 0) = false := by simpa using he
    obtain ⟨er, her⟩ : ∃ x, x = r.err (-1) := ⟨_, rfl⟩
    rw [← her] at he hq hq2 HC ⊢
    clear her
    have c2 := HS2.out.cell 0 rfl
    have f2 := HS2.out.frozen 0
    have l2 := HS2.out.lt
    have c3 := HS3.out.cell 0 rfl
    have f3 := HS3.out.frozen 0
    have l3 := HS3.out.lt
    have hne := HN23.out
    go_wp2
    refine leave_plain (.inl rfl) (res2 rfl _ _ g2 g3 0 er rfl rfl ((HS2.out.set 0 _).other hne 0 _) ((HS3.out.other (Ne.symm hne) 0 _).set 0 _)) ⟨by rw [HC.out], (HL.out.setCell HG2.out _).setCell HG3.out _⟩
end Go.Proofs.YtlofopnjjeeehaaDoor
