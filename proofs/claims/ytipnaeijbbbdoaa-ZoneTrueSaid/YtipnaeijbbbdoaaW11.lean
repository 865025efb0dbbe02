/- Zone: what Losses and Wrong try. -/
import Derived.Test.YtipnaeijbbbdoaaW10
namespace Go.Proofs.Ytipnaeijbbbdoaa
open Go.RowKit
attribute [local go_sem] Oper.semAt_some
/-- all zones can lose something alone: there is a truth -/
def AllR (z : Nat → Zon) (n : Nat) : Prop := ∀ i, i < n → (rs z n i).isSome = true
/-- what the rounds of Losses keep -/
structure LI (oa : Option Addr) (n ca : Nat) (z : Nat → Zon) (gt : Nat) (X : World) (pre : List Nat) (A : World) : Prop where
  tow : ∃ T', Box gt (towC (.slice oa n ca) T') 66 A ∧ (∀ j, j < n → (∃ c ∈ pre, Und z c j) → T' j = S z n j)
  low : Same (fun b => b < X.heap.size ∧ b ≠ gt) X A
  all : ∀ c ∈ pre, (rs z n c).isSome = true
theorem LI.same {oa : Option Addr} {n ca : Nat} {z : Nat → Zon} {gt : Nat} {X A B : World} {pre : List Nat} (h : LI oa n ca z gt X pre A) (hs : SameC X.heap.size A B) : LI oa n ca z gt X pre B := by
  obtain ⟨⟨T', ht, h1⟩, hl, ha⟩ := h
  exact ⟨⟨T', ⟨hs.block _ _ ht.row rfl⟩, h1⟩, hl.trans ⟨hs.os, hs.tape, hs.output, hs.size, fun k hk hp => hs.low k hp.1 hk⟩, ha⟩
abbrev lAct (gt bt g7 g8 : Nat) (x : Nat) : Act := { tmps := List.toArray ((.pointer (some ⟨bt, 0, none⟩) : Value) :: .int .i64 x :: .pointer (some ⟨gt, 0, none⟩) :: .func (.func 58) #[] #[.pointer (some ⟨g7, 0, none⟩), .pointer (some ⟨g8, 0, none⟩)] :: .int .i64 x :: undef :: undef :: undef :: undef :: undef :: []), defers := [] }
set_option maxRecDepth 100000 in
set_option maxHeartbeats 8000000 in
theorem losses1_any (oa : Option Addr) (n ca : Nat) (z : Nat → Zon) (w : World) (gt bt : Nat) (T : Nat → Spn) (W : World) (hA : ZonsAt w oa n z) (hn : n ≤ 12) (hz : Tree z n) (hok : ∀ i, i < n → (z i).ok) (hg : w.heap.size ≤ gt) (hgb : gt < bt)
    (hlow : Below w.heap.size w W) (hbx : Box gt (towC (.slice oa n ca) T) 66 W) (hbt : Box bt #[.pointer (some ⟨gt, 0, none⟩)] 63 W) :
    Calls Try.prog 34 #[.pointer (some ⟨bt, 0, none⟩)] W fun e w' => Same (· ≠ gt) W w' ∧ (((∃ v, e = .returned v) ∧ AllR z n ∧ ∃ T', Box gt (towC (.slice oa n ca) T') 66 w' ∧ ∀ j, j < n → T' j = dnF z n j) ∨ (e = .panicked misfit ∧ ¬ AllR z n)) := by
  have HRI := Lib.hid (fun (c : Nat) (hc : c < n) => rise_any oa n ca z w gt hA hn hz hok hg n c hc (by omega))
  have HFA := Lib.hid (fun (T : Nat → Spn) (W : World) (hall : ∀ i, i < n → (rs z n i).isSome = true) => fall_any oa n ca z w gt T W hA hn hz hok hall hg)
  have HA := Lib.hid hA
  have HZ := Lib.hid hz
  have HG := Lib.hid hg
  have HL := Lib.hid hlow
  have HBX := Lib.hid hbx
  have HBT := Lib.hid hbt
  have HGB := Lib.hid hgb
  clear hA hz hok hg hlow hbx hbt hgb
  have c2b := HBT.out.cell 0 (v := .pointer (some ⟨gt, 0, none⟩)) rfl
  refine calls_of_wpAt Try.func34 rfl ?_
  simp only [Try.ntmps34, List.size_toArray, List.length_cons, List.length_nil, Nat.reduceAdd, Nat.reduceSub, Array.replicate_succ, Array.replicate_zero, List.push_toArray, List.append_toArray, List.nil_append, List.cons_append]
  refine wpAt_seq (wpAt_seq (wpAt_wp ?_))
  go_wp2_with fail
  refine (parts_any gt (-1) _).mono ?_
  rintro e X6 ⟨rfl, hX6⟩
  have hb1 := (below_alloc1 W (.cells #[.pointer (some ⟨gt, 0, none⟩)] 63)).alloc (by simp) (.cells #[.int .i64 (-1)] 3)
  have hB7 := (Box.new (g := W.heap.size) #[.pointer (some ⟨gt, 0, none⟩)] 63 W rfl).old (.cells #[.int .i64 (-1)] 3)
  have hB8 := Box.new (g := W.heap.size + 1) #[.int .i64 (-1)] 3 (W.alloc (.cells #[.pointer (some ⟨gt, 0, none⟩)] 63)) (by simp)
  rw [← hX6] at hb1 hB7 hB8
  clear hX6 c2b
  obtain ⟨g8, hg8⟩ : ∃ G, G = W.heap.size + 1 := ⟨_, rfl⟩
  obtain ⟨g7, hg7⟩ : ∃ G, G = W.heap.size := ⟨_, rfl⟩
  rw [← hg8] at hB8 ⊢
  rw [← hg7] at hB7 ⊢
  have HG7 := Lib.hid (show W.heap.size ≤ g7 ∧ g7 < g8 by omega)
  have HWX := Lib.hid hb1
  have H7 := Lib.hid hB7
  have H8 := Lib.hid hB8
  replace HBT := Lib.hid (HBT.out.below hb1)
  replace HBX := Lib.hid (HBX.out.below hb1)
  have HLX := Lib.hid (HL.out.trans (hb1.mono HL.out.size))
  clear hb1 hB7 hB8 hg7 hg8
  go_wp2_with fail
  have HSEQ := Lib.hid (parts_seq oa n ca z gt g7 g8 (-1) (towC (.slice oa n ca) T) (fun b => b < X6.heap.size ∧ b ≠ gt) w X6 HA.out (by omega) (fun b hb => by
    have h1 := HG.out
    have h3 := HLX.out.size
    exact ⟨by omega, by omega⟩) (by
    have h1 := HGB.out
    have h2 := HG7.out
    have h3 := H8.out.lt
    have h4 := HBX.out.lt
    refine ⟨by omega, ?_⟩
    rintro rfl
    have := H8.out.row
    rw [HBX.out.row] at this
    cases this) HLX.out H7.out H8.out HBX.out rfl 7 (by omega))
  have HI0 := Lib.hid (show LI oa n ca z gt X6 [] X6 from ⟨⟨T, HBX.out, fun j _ h => by obtain ⟨c, hc, _⟩ := h; simp at hc⟩, Same.refl _ _, fun c hc => by simp at hc⟩)
  have HGX := Lib.hid (show gt < X6.heap.size ∧ bt < X6.heap.size from ⟨HBX.out.lt, HBT.out.lt⟩)
  clear H7 H8 HG7
  refine wpAt_block ?_
  refine wpAt_rangeFunc_Q (α := {c : Nat // c ∈ kidsTo z (-1) n}) ⟨_, Try.func34⟩ (gf := 58) (lb := #[.pointer (some ⟨g7, 0, none⟩), .pointer (some ⟨g8, 0, none⟩)]) rfl (enters_of Try.func58 (by kernel_rfl) rfl)
    (SeqQP.sub HSEQ.out) (Below.refl _ _) (fun k hk => hk.1) (fun _ => rfl)
    (fun xs A => LI oa n ca z gt X6 (xs.map (fun c : {c : Nat // c ∈ kidsTo z (-1) n} => c.val)) A) (fun _ _ _ => False) (fun ch _ A => ch = misfit ∧ (¬ AllR z n) ∧ Same (fun b => b < X6.heap.size ∧ b ≠ gt) X6 A)
    (fun s A X h hs => h.same hs) (fun c s A X h hs => h) HI0.out
    (fun pre x a' A => LI oa n ca z gt X6 (pre.map (fun c : {c : Nat // c ∈ kidsTo z (-1) n} => c.val)) A ∧ a' = lAct gt bt g7 g8 x.val)
    (fun pre x a' A l o hl ho h => ⟨h.1.same (.of_put ho hl _), h.2⟩)
    ?assign ?body ?done ?stop ?pan
  case assign =>
    intro l pre x A K hl hlW hI hlen hK
    have HKK := Lib.hid hK
    clear hK
    gi_wp2
    exact HKK.out _ _ (Same.refl _ _) ⟨hI, rfl⟩
  case body =>
    rintro l pre x a' A hl ⟨rr, hrr⟩ ⟨hI, rfl⟩ hlen
    have hAS := (Array.getElem?_eq_some_iff.1 hrr).1
    subst hl
    obtain ⟨x, hx⟩ := x
    obtain ⟨PR, hPR⟩ : ∃ PR, PR = pre.map (fun c : {c : Nat // c ∈ kidsTo z (-1) n} => c.val) := ⟨_, rfl⟩
    have HPX := Lib.hid (show List.map (fun c : {c : Nat // c ∈ kidsTo z (-1) n} => c.val) (pre ++ [(⟨x, hx⟩ : {c : Nat // c ∈ kidsTo z (-1) n})]) = PR ++ [x] by rw [hPR]; simp)
    rw [← hPR] at hI
    have HXN := Lib.hid (mem_kidsTo.1 hx)
    obtain ⟨⟨T1, hbt, hT1⟩, hsm, hall⟩ := hI
    have HT1 := Lib.hid hT1
    have HALL := Lib.hid hall
    have HSM := Lib.hid hsm
    have HRX := Lib.hid (HRI.out x (mem_kidsTo.1 hx).1 T1 A (HLX.out.trans (hsm.below HLX.out.size fun k hk => by
      have h1 := HG.out
      have h3 := HLX.out.size
      exact ⟨by omega, by omega⟩)) hbt)
    have H2A := Lib.hid (show Box bt #[.pointer (some ⟨gt, 0, none⟩)] 63 A from ⟨(hsm.block bt HGX.out.2 ⟨HGX.out.2, by have := HGB.out; omega⟩).trans HBT.out.row⟩)
    have c0 := H2A.out.cell 0 (v := .pointer (some ⟨gt, 0, none⟩)) rfl
    clear hrr hPR hT1 hall hsm hbt
    unfold lAct
    refine wpIn_block ?_
    refine wpIn_round_lit (by kernel_rfl) (by rintro ⟨a, w, h⟩; exact h) ?_
    go_wp2_with fail
    refine HRX.out.mono ?_
    rintro e wb ⟨T2, hbt2, hs2, hcase⟩
    have hSb : Same (fun b => b < X6.heap.size + 2 ∧ b ≠ gt) A wb := hs2.mono fun k _ h => h.2
    have hgx := HGX.out
    rcases hcase with ⟨rfl, hsx, hu1, hu2⟩ | ⟨rfl, hnx⟩
    · have HB2 := Lib.hid hbt2
      have HSB := Lib.hid hSb
      have HSX := Lib.hid hsx
      have HU1 := Lib.hid hu1
      have HU2 := Lib.hid hu2
      clear hbt2 hSb hs2 hu1 hu2 hsx c0
      go_wp2_with fail
      refine ⟨HSB.out.mono fun k _ hk => ?_, ?_⟩
      · rcases hk with hk | rfl | rfl
        · exact ⟨by omega, hk.2⟩
        · exact ⟨by omega, by omega⟩
        · exact ⟨by omega, by omega⟩
      · show LI oa n ca z gt X6 (List.map (fun c : {c : Nat // c ∈ kidsTo z (-1) n} => c.val) (pre ++ [⟨x, hx⟩])) wb
        rw [HPX.out]
        refine ⟨⟨T2, HB2.out, fun j hj ⟨c, hc, hu⟩ => ?_⟩, HSM.out.trans (HSB.out.mono fun k _ hk => ⟨by omega, hk.2⟩), fun c hc => ?_⟩
        · by_cases hux : Und z x j
          · exact HU1.out j hj hux
          · rw [HU2.out j hux]
            refine HT1.out j hj ⟨c, ?_, hu⟩
            rcases List.mem_append.1 hc with hc | hc
            · exact hc
            · rw [List.mem_singleton] at hc; subst hc; exact absurd hu hux
        · rcases List.mem_append.1 hc with hc | hc
          · exact HALL.out c hc
          · rw [List.mem_singleton] at hc; subst hc; exact HSX.out
    · refine ⟨rfl, hSb.mono fun k _ hk => ?_, rfl, fun h => ?_, HSM.out.trans (hSb.mono fun k _ hk => ⟨by omega, hk.2⟩)⟩
      · rcases hk with rfl | rfl
        · exact ⟨by omega, by omega⟩
        · exact ⟨by omega, by omega⟩
      · have := h x HXN.out.1
        rw [hnx] at this
        cases this
  case done =>
    rintro D xs A hD hxs hI hK
    have hxs : xs.map (fun c : {c : Nat // c ∈ kidsTo z (-1) n} => c.val) = kidsTo z (-1) n := hxs
    rw [hxs] at hI
    obtain ⟨⟨T1, hbt, hT1⟩, hsm, hall⟩ := hI
    have HALL := Lib.hid (show ∀ i, i < n → (rs z n i).isSome = true from fun i hi => by
      obtain ⟨r, h1, h2, h3⟩ := has_top HZ.out i hi
      exact rs_down HZ.out h3 hi (hall r (mem_kidsTo.2 ⟨by omega, h2⟩)))
    have hT2 : ∀ j, j < n → T1 j = S z n j := fun j hj => by
      obtain ⟨r, h1, h2, h3⟩ := has_top HZ.out j hj
      exact hT1 j hj ⟨r, mem_kidsTo.2 ⟨by omega, h2⟩, h3⟩
    have HFX := Lib.hid (HFA.out T1 A HALL.out (HLX.out.trans (hsm.below HLX.out.size fun k hk => by
      have h1 := HG.out
      have h3 := HLX.out.size
      exact ⟨by omega, by omega⟩)) hbt hT2)
    have H2A := Lib.hid (show Box bt #[.pointer (some ⟨gt, 0, none⟩)] 63 A from ⟨(hsm.block bt HGX.out.2 ⟨HGX.out.2, by have := HGB.out; omega⟩).trans HBT.out.row⟩)
    have HSW := Lib.hid (show Same (· ≠ gt) W A from by
      have h1 := HWX.out.size
      exact ⟨hsm.os.trans HWX.out.os, hsm.tape.trans HWX.out.tape, hsm.output.trans HWX.out.output, Nat.le_trans h1 hsm.size, fun k hk hp => (hsm.block k (by omega) ⟨by omega, hp⟩).trans (HWX.out.block k hk)⟩)
    have HK := Lib.hid hK
    have hgx := HGX.out
    have HDG := Lib.hid (show D ≠ gt by omega)
    have c0 := H2A.out.cell 0 (v := .pointer (some ⟨gt, 0, none⟩)) rfl
    clear hbt hK hsm hall hT1 hT2 hxs HSEQ HI0 HRI HFA
    refine (show wpAt 34 8 _ _ _ _ _ from wpAt_wp ?_)
    dsimp only
    go_wp2_with fail
    refine HFX.out.mono ?_
    rintro e wb ⟨⟨v, rfl⟩, T3, hb3, hs3, hT3⟩
    have HB3 := Lib.hid hb3
    have HS3 := Lib.hid hs3
    have HT3 := Lib.hid hT3
    clear hb3 hs3 hT3 c0
    go_wp2_with fail
    have hK9 : wb.heap[D]? = some (.deferred (some [])) := (HS3.out.block D (Array.getElem?_eq_some_iff.1 HK.out).1 HDG.out).trans HK.out
    have h1 := HWX.out.size
    refine leave_mark (.inr rfl) hK9 (results_none rfl _ _ _) ⟨(HSW.out.trans HS3.out).putObj (fun _ => by omega) _, .inl ⟨⟨_, rfl⟩, HALL.out, T3, ⟨(World.putObj_heap_other (Ne.symm HDG.out)).trans HB3.out.row⟩, HT3.out⟩⟩
  case stop =>
    intro D c pre A hD hS h
    exact h.elim
  case pan =>
    rintro D ch pre A hD ⟨kk, hkk, hpre⟩ ⟨rfl, hno, hsm⟩ hK
    have h1 := HWX.out.size
    have hsame : Same (· ≠ gt) W (A.putObj D (.deferred none)) := by
      have h4 : Same (· ≠ gt) W A := ⟨hsm.os.trans HWX.out.os, hsm.tape.trans HWX.out.tape, hsm.output.trans HWX.out.output, Nat.le_trans h1 hsm.size, fun k hk hp => (hsm.block k (by omega) ⟨by omega, hp⟩).trans (HWX.out.block k hk)⟩
      exact h4.putObj (fun _ => by omega) _
    exact leave_mark_panic hK ⟨hsame, .inr ⟨rfl, hno⟩⟩
set_option maxRecDepth 100000 in
set_option maxHeartbeats 4000000 in
theorem wrong1_any (oa : Option Addr) (n ca : Nat) (z : Nat → Zon) (w : World) (gt bt bi i : Nat) (T : Nat → Spn) (W : World) (hA : ZonsAt w oa n z) (hn : n ≤ 12) (hz : Tree z n) (hok : ∀ i, i < n → (z i).ok) (hg : w.heap.size ≤ gt) (hi : i < n)
    (hlow : Below w.heap.size w W) (hbx : Box gt (towC (.slice oa n ca) T) 66 W) (hbt : Box bt #[.pointer (some ⟨gt, 0, none⟩)] 63 W) (hbi : Box bi #[.int .i64 i] 3 W) :
    Calls Try.prog 42 #[.pointer (some ⟨bt, 0, none⟩), .pointer (some ⟨bi, 0, none⟩)] W fun e w' => Same (· ≠ gt) W w' ∧ (((∃ v, e = .returned v) ∧ (rs z n i).isSome = true ∧ ∃ T', Box gt (towC (.slice oa n ca) T') 66 w') ∨ (e = .panicked misfit ∧ rs z n i = none ∧ ∃ T', Box gt (towC (.slice oa n ca) T') 66 w')) := by
  have HRI := Lib.hid (rise_any oa n ca z w gt hA hn hz hok hg n i hi (by omega) T W hlow hbx)
  have c0 := hbt.cell 0 (v := .pointer (some ⟨gt, 0, none⟩)) rfl
  have c1 := hbi.cell 0 (v := .int .i64 i) rfl
  clear hA hn hz hok hg hi hlow hbx hbt hbi
  go_enter Try.func42, Try.ntmps42
  go_wp2_with fail
  refine HRI.out.mono ?_
  rintro e wb ⟨T2, hbt2, hs2, ⟨rfl, hsx, hu1, hu2⟩ | ⟨rfl, hnx⟩⟩
  · have HB2 := Lib.hid hbt2
    have HS2 := Lib.hid hs2
    have HSX := Lib.hid hsx
    clear hbt2 hs2 hsx hu1 hu2 c0 c1
    go_wp2_with fail
    refine bodyPost_end (results_none rfl _ _ _) rfl ⟨HS2.out, .inl ⟨⟨_, rfl⟩, HSX.out, T2, HB2.out⟩⟩
  · exact ⟨rfl, hs2, .inr ⟨rfl, hnx, T2, hbt2⟩⟩
end Go.Proofs.Ytipnaeijbbbdoaa
