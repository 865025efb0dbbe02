/- Zone: the parts of a zone, collected. -/
import Derived.Test.YtipnaeijbbbdoaaW6
namespace Go.Proofs.Ytipnaeijbbbdoaa
open Go.RowKit
attribute [local go_sem] Oper.semAt_some
/-- numbers of zones, as cells -/
def inL (l : List Nat) : List Value := intNews l.length (fun j => ((l.getD j 0 : Nat) : Int))
theorem inL_snoc (l : List Nat) (x : Nat) : inL l ++ [.int .i64 x] = inL (l ++ [x]) := by
  unfold inL
  rw [List.length_append, List.length_singleton, int_news_succ]
  have e1 : (l ++ [x]).getD l.length 0 = x := by simp [List.getD_eq_getElem?_getD]
  rw [e1]
  congr 1
  unfold intNews
  refine List.map_congr_left fun j hj => ?_
  have hj := List.mem_range.1 hj
  have e2 : (l ++ [x]).getD j 0 = l.getD j 0 := by rw [List.getD_eq_getElem?_getD, List.getD_eq_getElem?_getD, List.getElem?_append_left hj]
  simp only []
  rw [e2]
/-- what the rounds keep -/
structure AI (g : Nat) (X : World) (pre : List Nat) (A : World) : Prop where
  row : ∃ v, Box g #[v] 37 A ∧ A.ownsRow (X.heap.size + 2) 3 1 v pre.length (inL pre)
  low : Same (fun b => b < X.heap.size ∧ b ≠ g) X A
theorem AI.same {g : Nat} {X A B : World} {pre : List Nat} (h : AI g X pre A) (hs : SameC X.heap.size A B) : AI g X pre B := by
  obtain ⟨⟨v, hb, ho⟩, hl⟩ := h
  exact ⟨⟨v, ⟨hs.block _ _ hb.row rfl⟩, owns_sameC ho hs⟩, hl.trans ⟨hs.os, hs.tape, hs.output, hs.size, fun k hk hp => hs.low k hp.1 hk⟩⟩
abbrev aAct (g7 g8 g : Nat) (x : Nat) : Act := { tmps := List.toArray ((.slice none 0 0 : Value) :: .func (.func 58) #[] #[.pointer (some ⟨g7, 0, none⟩), .pointer (some ⟨g8, 0, none⟩)] :: .pointer (some ⟨g, 0, none⟩) :: undef :: .slice none 0 0 :: .int .i64 x :: .func (.func 58) #[] #[.pointer (some ⟨g7, 0, none⟩), .pointer (some ⟨g8, 0, none⟩)] :: .int .i64 x :: undef :: undef :: undef :: undef :: undef :: []), defers := [] }
set_option maxRecDepth 100000 in
set_option maxHeartbeats 8000000 in
theorem appendSeq_any (oa : Option Addr) (n ca : Nat) (z : Nat → Zon) (q : Int) (gt g7 g8 : Nat) (tc : Array Value) (w W : World) (hA : ZonsAt w oa n z) (hn : n ≤ 12) (hlow : Below w.heap.size w W)
    (h7 : Box g7 #[.pointer (some ⟨gt, 0, none⟩)] 63 W) (h8 : Box g8 #[.int .i64 q] 3 W) (ht : Box gt tc 66 W) (htc : tc[0]? = some (.slice oa n ca)) :
    Calls Try.prog 69 #[.slice none 0 0, .func (.func 58) #[] #[.pointer (some ⟨g7, 0, none⟩), .pointer (some ⟨g8, 0, none⟩)]] W fun e w' => (∃ oL cL, e = .returned (.slice oL (kidsTo z q n).length cL) ∧ IntsAt w' oL (kidsTo z q n).length (fun j => (((kidsTo z q n).getD j 0 : Nat) : Int)) ∧ ∀ a, oL = some a → W.heap.size ≤ a.block) ∧ Below W.heap.size W w' := by
  have HA := Lib.hid hA
  have HL := Lib.hid hlow
  have H7 := Lib.hid h7
  have H8 := Lib.hid h8
  have HT := Lib.hid ht
  have HTC := Lib.hid htc
  clear hA hlow h7 h8 ht htc
  refine calls_of_wpAt Try.func69 rfl ?_
  simp only [Try.ntmps69, List.size_toArray, List.length_cons, List.length_nil, Nat.reduceAdd, Nat.reduceSub, Array.replicate_succ, Array.replicate_zero, List.push_toArray, List.append_toArray, List.nil_append, List.cons_append]
  refine wpAt_seq (wpAt_wp ?_)
  go_wp2_with fail
  have hb1 := below_alloc1 W (.cells #[.slice none 0 0] 37)
  have hB := Box.new (g := W.heap.size) #[.slice none 0 0] 37 W rfl
  obtain ⟨X, hX⟩ : ∃ X, X = W.alloc (.cells #[.slice none 0 0] 37) := ⟨_, rfl⟩
  rw [← hX] at hB hb1 ⊢
  clear hX
  obtain ⟨g, hg⟩ : ∃ G, G = W.heap.size := ⟨_, rfl⟩
  rw [← hg] at hB ⊢
  have HG := Lib.hid (show W.heap.size ≤ g ∧ g7 < g ∧ g8 < g ∧ gt < g ∧ g < X.heap.size by have := H7.out.lt; have := H8.out.lt; have := HT.out.lt; have := hB.lt; omega)
  have HW := Lib.hid hb1
  have HB := Lib.hid hB
  have HGE := Lib.hid hg
  clear hg hb1 hB
  refine wpAt_seq (wpAt_seq (wpAt_wp ?_))
  go_wp2_with fail
  obtain ⟨iR, hiR, hzR0, hzR1, hzR2⟩ := info_parts (P := Try.prog) (e := 3) (z := .int .i64 0) (size := 1) (bytes := 8) (by kernel_rfl)
  have HIR := Lib.hid hiR
  have HZR := Lib.hid (And.intro hzR0 (And.intro hzR1 hzR2))
  clear hiR hzR0 hzR1 hzR2
  have HLX := Lib.hid (HL.out.trans (HW.out.mono HL.out.size))
  have HSEQ := Lib.hid (parts_seq oa n ca z gt g7 g8 q tc (fun b => b < X.heap.size ∧ b ≠ g) w X HA.out (by omega) (fun b hb => by
    have h1 := HG.out
    have h2 := HL.out.size
    have h3 := HLX.out.size
    exact ⟨by omega, by omega⟩) (by
    have h1 := HG.out
    exact ⟨by omega, by omega⟩) HLX.out (H7.out.below HW.out) (H8.out.below HW.out) (HT.out.below HW.out) HTC.out 7 (by omega))
  have HI0 := Lib.hid (show AI g X [] X from ⟨⟨_, HB.out, owns_none⟩, Same.refl _ _⟩)
  clear HB H7 H8 HT HA HLX
  refine wpAt_block ?_
  refine wpAt_rangeFunc_Q (α := {c : Nat // c ∈ kidsTo z q n}) ⟨_, Try.func69⟩ (gf := 58) (lb := #[.pointer (some ⟨g7, 0, none⟩), .pointer (some ⟨g8, 0, none⟩)]) rfl (enters_of Try.func58 (by kernel_rfl) rfl)
    (SeqQP.sub HSEQ.out) (Below.refl _ _) (fun k hk => hk.1) (fun _ => rfl)
    (fun xs A => AI g X (xs.map (fun c : {c : Nat // c ∈ kidsTo z q n} => c.val)) A) (fun _ _ _ => False) (fun _ _ _ => False)
    (fun s A Y h hs => h.same hs) (fun c s A Y h hs => h) HI0.out
    (fun pre x a' A => AI g X (pre.map (fun c : {c : Nat // c ∈ kidsTo z q n} => c.val)) A ∧ a' = aAct g7 g8 g x.val)
    (fun pre x a' A l o hl ho h => ⟨h.1.same (.of_put ho hl _), h.2⟩)
    ?assign ?body ?done ?stop ?pan
  case assign =>
    intro l pre x A K hl hlW hI hlen hK
    have HKK := Lib.hid hK
    clear hK
    gi_wp2
    exact HKK.out _ _ (Same.refl _ _) ⟨hI, rfl⟩
  case body =>
    rintro l pre x a' A hl ⟨rr, hrr⟩ ⟨hI, rfl⟩ hlen
    have hAS := (Array.getElem?_eq_some_iff.1 hrr).1
    subst hl
    obtain ⟨x, hx⟩ := x
    obtain ⟨PR, hPR⟩ : ∃ PR, PR = pre.map (fun c : {c : Nat // c ∈ kidsTo z q n} => c.val) := ⟨_, rfl⟩
    have hpl : pre.length = PR.length := by rw [hPR, List.length_map]
    have HPX := Lib.hid (show List.map (fun c : {c : Nat // c ∈ kidsTo z q n} => c.val) (pre ++ [(⟨x, hx⟩ : {c : Nat // c ∈ kidsTo z q n})]) = PR ++ [x] by rw [hPR]; simp)
    rw [← hPR] at hI
    rw [hpl] at hlen
    have hlen9 : PR.length ≤ 13 := by omega
    obtain ⟨⟨vL, hb6, hown⟩, hsm⟩ := hI
    obtain ⟨oL, cL, rfl, -⟩ := owns_form hown
    have HSM := Lib.hid hsm
    have HB6 := Lib.hid hb6
    have HSN := Lib.hid (inL_snoc PR x)
    have HPL := Lib.hid (show (PR ++ [x]).length = PR.length + 1 by simp)
    have HOW := Lib.hid hown
    have c6 := hb6.cell 0 (v := .slice oL PR.length cL) rfl
    have f6 := hb6.frozen 0
    have l6 := hb6.lt
    clear hrr hpl hPR hsm hown hb6
    unfold aAct
    refine wpIn_block ?_
    refine wpIn_round_lit (by kernel_rfl) (by rintro ⟨a, w, h⟩; exact h) ?_
    go_wp2_with (at_builtin; refine wpList_append_gen rfl (.tmp 8) (.tmp 10) _ rfl (X.heap.size + 2) 3 iR _ 1 8 Try.underlying37 HIR.out HZR.out.1 HZR.out.2.1 HZR.out.2.2 rfl (by omega) (.slice oL PR.length cL) PR.length (inL PR) rfl (some ⟨A.heap.size, 0, none⟩) 1 1 [.int .i64 x] rfl (HOW.out.alloc _) (fun e9 => by cases e9) rfl (fun ad9 e9 j9 u9 hu9 => by cases e9; exact news_blk1 (e := 3) (heap_new rfl) hu9) (by simp [Value.oneCell']) (by simp only [maxLen]; omega) (by omega) (by simp; omega) ?_; intro vS wS hownS hgrowS; obtain ⟨oT, cT, rfl, -⟩ := owns_form hownS; have hrow : ∀ k, (Value.slice oL PR.length cL).ownBlock = some k → X.heap.size + 2 ≤ k := (fun k e => (HOW.out.lt k e).1); have hbS : Box g #[.slice oL PR.length cL] 37 wS := ⟨(hgrowS.block _ (HB6.out.old _).lt (fun e => by have := hrow _ e.symm; have := HG.out; omega)).trans (HB6.out.old _).row⟩; have cS := hbS.cell 0 (v := .slice oL PR.length cL) rfl; have fS := hbS.frozen 0; have lS := hbS.lt)
    have hSe : Same (fun b => b < X.heap.size + 2 ∧ b ≠ g) A wS := ((Same.refl _ A).alloc _).trans (Same.of_grownBy hgrowS fun k e hp => by have := hrow k e; have := hp.1; omega)
    have hSf : Same (fun b => b < X.heap.size + 2 ∧ b ≠ g) A (wS.setCell ⟨g, 0, none⟩ (.slice oT (PR.length + 1) cT)) := hSe.setCell (fun h9 => absurd rfl h9.2) _
    have hownU := owns_set (i := 0) (u := .slice oT (PR.length + 1) cT) hownS (own_ne hownS hbS (by decide))
    rw [HSN.out] at hownU
    have hbU : Box g #[.slice oT (PR ++ [x]).length cT] 37 (wS.setCell ⟨g, 0, none⟩ (.slice oT (PR.length + 1) cT)) := by rw [HPL.out]; exact hbS.set 0 _
    refine ⟨hSf.mono fun k _ hk => ?_, ?_⟩
    · have := HG.out
      rcases hk with hk | rfl | rfl
      · exact ⟨by omega, hk.2⟩
      · exact ⟨by omega, by omega⟩
      · exact ⟨by omega, by omega⟩
    · show AI g X (List.map (fun c : {c : Nat // c ∈ kidsTo z q n} => c.val) (pre ++ [⟨x, hx⟩])) _
      rw [HPX.out]
      refine ⟨⟨_, hbU, ?_⟩, HSM.out.trans (hSf.mono fun k _ hk => ⟨by omega, hk.2⟩)⟩
      rw [HPL.out]
      exact hownU
  case done =>
    rintro D xs A hD hxs hI hK
    have hxs : xs.map (fun c : {c : Nat // c ∈ kidsTo z q n} => c.val) = kidsTo z q n := hxs
    rw [hxs] at hI
    obtain ⟨⟨vL, hb6, hown⟩, hsm⟩ := hI
    obtain ⟨oL, cL, rfl, hin, hba⟩ := owns_ints (show A.ownsRow (X.heap.size + 2) 3 1 vL (kidsTo z q n).length (intNews (kidsTo z q n).length (fun j => (((kidsTo z q n).getD j 0 : Nat) : Int))) from hown)
    have c6 := hb6.cell 0 (v := .slice oL (kidsTo z q n).length cL) rfl
    have HK := Lib.hid hK
    have HSW := Lib.hid (show Below W.heap.size W A from HW.out.trans (hsm.below HW.out.size fun k hk => by have := HG.out; have := HW.out.size; exact ⟨by omega, by omega⟩))
    have HIN := Lib.hid hin
    have HBA := Lib.hid (show ∀ a, oL = some a → W.heap.size ≤ a.block from fun a ha => by have h1 := hba a ha; have h2 := HW.out.size; omega)
    have hDlt := (Array.getElem?_eq_some_iff.1 hK).1
    clear hK hsm hin hown hb6 hxs hba
    refine (show wpAt 69 8 _ _ _ _ _ from wpAt_wp ?_)
    dsimp only
    go_wp2_with fail
    have hIN2 : IntsAt (A.putObj D (.deferred none)) oL (kidsTo z q n).length (fun j => (((kidsTo z q n).getD j 0 : Nat) : Int)) := fun j hj => by
      obtain ⟨b, off, e1, e2, e3⟩ := HIN.out j hj
      exact ⟨b, off, e1, by simpa using e2, cell_putObj e3 ⟨_, HK.out, rfl⟩ _⟩
    refine leave_mark (.inl rfl) HK.out (v := .slice oL (kidsTo z q n).length cL) (by simp [results, Try.results69, go_sem]) ⟨⟨oL, cL, rfl, hIN2, by have := HGE.out; first | exact HBA.out | (rw [this]; exact HBA.out)⟩, ?_⟩
    have h1 := HW.out.size
    have h2 := HGE.out
    exact ⟨HSW.out.os, HSW.out.tape, HSW.out.output, by simpa using HSW.out.size, fun k hk => (World.putObj_heap_other (by omega)).trans (HSW.out.block k (by omega))⟩
  case stop =>
    intro D c pre A hD hS h
    exact h.elim
  case pan =>
    rintro D ch pre A hD hS h
    exact h.elim
set_option maxHeartbeats 1000000 in
theorem collect_any (oa : Option Addr) (n ca : Nat) (z : Nat → Zon) (q : Int) (gt g7 g8 : Nat) (tc : Array Value) (w W : World) (hA : ZonsAt w oa n z) (hn : n ≤ 12) (hlow : Below w.heap.size w W)
    (h7 : Box g7 #[.pointer (some ⟨gt, 0, none⟩)] 63 W) (h8 : Box g8 #[.int .i64 q] 3 W) (ht : Box gt tc 66 W) (htc : tc[0]? = some (.slice oa n ca)) :
    Calls Try.prog 63 #[.func (.func 58) #[] #[.pointer (some ⟨g7, 0, none⟩), .pointer (some ⟨g8, 0, none⟩)]] W fun e w' => (∃ oL cL, e = .returned (.slice oL (kidsTo z q n).length cL) ∧ IntsAt w' oL (kidsTo z q n).length (fun j => (((kidsTo z q n).getD j 0 : Nat) : Int)) ∧ ∀ a, oL = some a → W.heap.size ≤ a.block) ∧ Below W.heap.size W w' := by
  have HC := Lib.hid (appendSeq_any oa n ca z q gt g7 g8 tc w W hA hn hlow h7 h8 ht htc)
  clear hA hn hlow h7 h8 ht htc
  go_enter Try.func63, Try.ntmps63
  go_wp2_with fail
  refine (HC.out).mono ?_
  rintro e w1 ⟨⟨oL, cL, rfl, h1, h3⟩, h2⟩
  have H3 := Lib.hid h3
  clear h3
  have H1 := Lib.hid h1
  have H2 := Lib.hid h2
  clear h1 h2 HC
  go_wp2_with fail
  go_ret
  exact ⟨⟨oL, cL, rfl, H1.out, H3.out⟩, H2.out⟩
end Go.Proofs.Ytipnaeijbbbdoaa
