/- judge returns the verdict of a test, or why there is none. -/
import Derived.Test.YtmeeknmjhlfnaaaDoorW12
import Derived.Test.YtmeeknmjhlfnaaaDoorP3
import Derived.Laws.EntriesVeiled
namespace Go.Proofs.YtmeeknmjhlfnaaaDoor
open Go.RowKit
attribute [local go_sem] Oper.semAt_some
set_option maxHeartbeats 400000 in
theorem guesses_any (g : Nat) (w : World) :
    Calls Tryd.prog 22 #[.pointer (some ⟨g, 0, none⟩)] w fun e w' => e = .returned (.func (.func 28) #[] #[.pointer (some ⟨w.heap.size, 0, none⟩)]) ∧ w' = w.alloc (.cells #[.pointer (some ⟨g, 0, none⟩)] 60) := by
  go_enter Tryd.func22, Tryd.ntmps22
  go_wp2
  go_ret
  exact ⟨rfl, rfl⟩
/-- the cells of a verdict -/
abbrev Vd.cells (v : Vd) : Array Value := vdCells v.some v.sound v.can v.surely v.leaks
/-- what judge leaves -/
def JPost (t : Tst) (w : World) (e : Ending) (w' : World) : Prop :=
  Below w.heap.size w w' ∧ ((t.valid = false ∧ e = .returned (.tuple #[.pointer none, .int .i64 1])) ∨ (t.valid = true ∧ gL t (2 ^ t.n) = [] ∧ e = .returned (.tuple #[.pointer none, .int .i64 6])) ∨
    (t.valid = true ∧ gL t (2 ^ t.n) ≠ [] ∧ ∃ gv, e = .returned (.tuple #[.pointer (some ⟨gv, 0, none⟩), .int .i64 0]) ∧ Box gv (verd t).cells 56 w'))
/-- the frame of judge's round -/
abbrev jAct (tv xv : Value) (g1 gt gv : Nat) (oa : Option Addr) (n ca : Nat) (sh : Int) (top : Nat) (bx gB : Nat) : Act := { tmps := #[tv, .pointer (some ⟨g1, 0, none⟩), .pointer none, .int .i64 0, .pointer (some ⟨gt, 0, none⟩), .pointer (some ⟨gv, 0, none⟩), .pointer (some ⟨gv + 1, 0, none⟩), .pointer (some ⟨gB, 0, none⟩), tv, .pointer (some ⟨gt, 0, none⟩), .pointer (some ⟨gt, 0, none⟩), .bool false, .pointer (some ⟨g1, 0, none⟩), .slice oa n ca, .int .i64 (n : Nat), .int .i64 sh, .int .i64 (top : Nat), .agg (vdCells false false 0 top (fun _ => ⟨0, 0⟩)), .pointer (some ⟨gv, 0, none⟩), .pointer (some ⟨gv, 0, none⟩), .func (.func 21) #[.pointer (some ⟨gv, 0, none⟩)] #[], .pointer (some ⟨gt, 0, none⟩), .func (.func 28) #[] #[.pointer (some ⟨bx, 0, none⟩)], xv, undef, undef, undef, undef, undef, undef, undef, undef, undef], defers := [] }
/-- what the rounds keep -/
structure JI (t : Tst) (gv S : Nat) (W3 : World) (pre : List {g : Gs // Gs.of t g}) (W : World) : Prop where
  hv : Box gv (verdF t (pre.map (fun z => z.val))).cells 56 W
  low : Same (fun b => b < S ∧ b ≠ gv) W3 W
theorem JI.same {t : Tst} {gv S : Nat} {W3 A B : World} {pre : List {g : Gs // Gs.of t g}} (h : JI t gv S W3 pre A) (hs : SameC S A B) : JI t gv S W3 pre B :=
  ⟨⟨hs.block _ _ h.hv.row rfl⟩, h.low.trans ⟨hs.os, hs.tape, hs.output, hs.size, fun k hk hp => hs.low k hp.1 hk⟩⟩
theorem Box.putObj {g l : Nat} {cs : Array Value} {t : TypeId} {A : World} (h : Box g cs t A) (hl : ∃ o' : Obj, A.heap[l]? = some o' ∧ o'.isCells = false) (o : Obj) : Box g cs t (A.putObj l o) := ⟨(SameC.of_put (n := 0) hl (Nat.zero_le _) o).block _ _ h.row rfl⟩
theorem below_putObj {B : Nat} {A W : World} (h : Below B A W) {l : Nat} (hl : B ≤ l) (o : Obj) : Below B A (W.putObj l o) :=
  ⟨h.os, h.tape, h.output, by simpa using h.size, fun k hk => (World.putObj_heap_other (by omega)).trans (h.block k hk)⟩
set_option maxRecDepth 100000 in
set_option maxHeartbeats 4000000 in
theorem judge_any (t : Tst) (oa : Option Addr) (ca : Nat) (ob : Option Addr) (cb : Nat) (w : World) (hn : t.n ≤ 1000000) (hm : t.m ≤ 1000000) (hU : SpnsAt w oa t.n t.u) (hS : StpsAt w ob t.m t.s) (hT : TabAt 1 Lib.deBruijn64tab w) (h1 : 1 < w.heap.size) :
    Calls Tryd.prog 14 #[t.val oa ca ob cb] w (JPost t w) := by
  have HU := Lib.hid hU
  have HS := Lib.hid hS
  have HT := Lib.hid hT
  clear hU hS hT
  refine calls_of_wp_marks Tryd.func14 rfl ?_
  simp only [Tryd.ntmps14, List.size_toArray, List.length_cons, List.length_nil, Nat.reduceAdd, Nat.reduceSub, Array.replicate_succ, Array.replicate_zero, List.push_toArray, List.append_toArray, List.nil_append, List.cons_append]
  go_wp2_with fail
  have hb0 := below_alloc1 w (.cells #[.slice oa t.n ca, .int .i64 t.leaks, .int .i64 t.least, .slice ob t.m cb] 25)
  have zt := Box.new (g := w.heap.size) #[.slice oa t.n ca, .int .i64 t.leaks, .int .i64 t.least, .slice ob t.m cb] 25 w rfl
  obtain ⟨W0, hW0⟩ : ∃ X, X = w.alloc (.cells #[.slice oa t.n ca, .int .i64 t.leaks, .int .i64 t.least, .slice ob t.m cb] 25) := ⟨_, rfl⟩
  rw [← hW0] at hb0 zt ⊢
  clear hW0
  refine (newTest_any t oa ca ob cb _ hn hm (HU.out.mono hb0) (HS.out.mono hb0)).mono ?_
  rintro e w1 ⟨hor, hb1⟩
  have hbw := hb0.trans (hb1.mono hb0.size)
  rcases hor with ⟨hv, rfl⟩ | ⟨hv, gt, or, cr, rfl, zx, hR⟩
  · have HV := Lib.hid hv
    clear hv
    go_wp2_with fail
    refine leave_plain (v := .tuple #[.pointer none, .int .i64 1]) (.inl rfl) (by simp [results, Tryd.results14, go_sem]) ⟨hbw, .inl ⟨HV.out, rfl⟩⟩
  · have HV := Lib.hid hv
    have hk := Tst.ok hv
    have HK := Lib.hid hk
    have hn2 := hk.n2
    have HR := Lib.hid hR
    have hlx := zx.lt
    have zt1 := zt.below hb1
    have c0 := zt1.cell 0 (v := .slice oa t.n ca) rfl
    have c1 := zt1.lt
    have ZX := Lib.hid zx
    have HBW := Lib.hid hbw
    have E9 := top_wrap hn2
    rw [show top t.n = ((2 ^ t.n - 1 : Nat) : Int) by unfold top; have := Nat.pos_of_ne_zero (show 2 ^ t.n ≠ 0 by simp); omega] at E9
    have HE9 := Lib.hid E9
    have H1 := Lib.hid (show 1 < w1.heap.size from Nat.lt_of_lt_of_le h1 hbw.size)
    have HT1 := Lib.hid (show TabAt 1 Lib.deBruijn64tab w1 from fun j hj => (hbw.cell (p := ⟨1, j, none⟩) h1).trans (HT.out j hj))
    clear hv hk hR zx hbw E9 h1 hb0 hb1 zt
    go_wp2_with fail
    rw [HE9.out]
    have zv0 := ((Box.new (g := w1.heap.size) (vdCells false false 0 (2 ^ t.n - 1) (fun _ => ⟨0, 0⟩)) 56 w1 rfl).old (.cells #[.func (.func 21) #[.pointer (some ⟨w1.heap.size, 0, none⟩)] #[]] 62))
    have zf0 := (Box.new (g := w1.heap.size + 1) #[.func (.func 21) #[.pointer (some ⟨w1.heap.size, 0, none⟩)] #[]] 62 (w1.alloc (.cells (vdCells false false 0 (2 ^ t.n - 1) (fun _ => ⟨0, 0⟩)) 56)) (by simp))
    have hb2 : Below w1.heap.size w1 ((w1.alloc (.cells (vdCells false false 0 (2 ^ t.n - 1) (fun _ => ⟨0, 0⟩)) 56)).alloc (.cells #[.func (.func 21) #[.pointer (some ⟨w1.heap.size, 0, none⟩)] #[]] 62)) := (by repeat' (first | exact Below.refl _ _ | assumption | apply below_drewN | apply Below.drew | (refine Below.alloc ?_ ?_ _) | (refine Below.setCell ?_ ?_ _) | (simp; done) | (simp; omega) | omega))
    have hs2 : ((w1.alloc (.cells (vdCells false false 0 (2 ^ t.n - 1) (fun _ => ⟨0, 0⟩)) 56)).alloc (.cells #[.func (.func 21) #[.pointer (some ⟨w1.heap.size, 0, none⟩)] #[]] 62)).heap.size = w1.heap.size + 2 := by simp
    obtain ⟨W2, hW2⟩ : ∃ X, X = ((w1.alloc (.cells (vdCells false false 0 (2 ^ t.n - 1) (fun _ => ⟨0, 0⟩)) 56)).alloc (.cells #[.func (.func 21) #[.pointer (some ⟨w1.heap.size, 0, none⟩)] #[]] 62)) := ⟨_, rfl⟩
    rw [← hW2] at zv0 zf0 hb2 hs2
    have e00 : ((0 : Nat) : Int) = 0 := rfl
    simp only [vdCells, e00] at hW2
    rw [← hW2]
    clear e00
    obtain ⟨X, hX⟩ : ∃ X, X = W2 := ⟨_, rfl⟩
    subst hX
    clear hW2
    obtain ⟨gv, hgv⟩ : ∃ n, n = w1.heap.size := ⟨_, rfl⟩
    rw [← hgv] at zv0 zf0 hb2 hs2 hlx c1 ⊢
    refine (guesses_any gt _).mono ?_
    rintro e W3 ⟨rfl, hW3⟩
    have zb3 := Box.new (g := X.heap.size) #[.pointer (some ⟨gt, 0, none⟩)] 60 X rfl
    have hb3 := below_alloc1 X (.cells #[.pointer (some ⟨gt, 0, none⟩)] 60)
    rw [← hW3] at zb3 hb3
    have hs3 : W3.heap.size = X.heap.size + 1 := by rw [hW3]; simp
    clear hW3
    obtain ⟨bx, hbx⟩ : ∃ n, n = X.heap.size := ⟨_, rfl⟩
    rw [← hbx] at zb3 hs3 ⊢
    have hb23 : Below gv w1 W3 := hb2.trans (hb3.mono (by omega))
    have zv3 := zv0.below hb3
    have zf3 := zf0.below hb3
    have hgw : w.heap.size ≤ gv := by have := HBW.out.size; omega
    have hgv2 : 1 < gv := by have := H1.out; omega
    have hit : It bx gt gv t oa ca ob cb or cr W3 := ⟨zb3, ZX.out.below (by rw [← hgv]; exact hb23), HR.out.mono (by rw [← hgv]; exact hb23), fun j hj => (hb23.cell (p := ⟨1, j, none⟩) hgv2).trans (HT1.out j hj), by omega, by omega, by omega, fun a hp ha => (by
      obtain ⟨b, off, h0, h2, -⟩ := HR.out 0 hp
      rw [ha] at h0
      cases h0
      show b ≠ gv
      omega), by omega⟩
    have HIT := Lib.hid hit
    have HB3 := Lib.hid hb23
    have HGV := Lib.hid hgv
    have HZF := Lib.hid zf3
    have HZV := Lib.hid zv3
    have HBX := Lib.hid (show W3.heap.size = gv + 3 by omega)
    have HBXX := Lib.hid (show bx = gv + 2 by omega)
    have HGT := Lib.hid (show gt < gv from hlx)
    clear hit hb23 zb3 hb3 hs3 hbx zv3 zf3 zv0 zf0 hb2 hs2 hgv
    go_wp2_with fail
    refine (wpIn_wide (n := 10)).1 ?_
    refine wpIn_rangeFunc_C (α := {g : Gs // Gs.of t g}) rfl (by omega) (gf := 28) (lb := #[.pointer (some ⟨bx, 0, none⟩)]) rfl trivial (enters_of Tryd.func28 (by kernel_rfl) rfl)
      (SeqP.sub (gs_seq t HK.out bx gt gv oa ca ob cb or cr W3 HIT.out (10 - 1) (by omega))) (Same.refl _ _) (fun k hk => hk.1) (fun _ => rfl)
      (JI t gv W3.heap.size W3) (fun _ _ _ => False) (fun s A B h hs => h.same hs) (fun c s A B h hs => h) ⟨HZV.out, Same.refl _ _⟩
      (fun pre x a' W => ∃ gB, W3.heap.size ≤ gB ∧ JI t gv W3.heap.size W3 pre W ∧ Box gB #[.int .i64 x.val.p.a.lo, .int .i64 x.val.p.a.hi, .int .i64 x.val.p.b.lo, .int .i64 x.val.p.b.hi, .int .i64 x.val.p.c.lo, .int .i64 x.val.p.c.hi, .int .i64 (x.val.x : Nat), .int .i64 (sizeN x.val.x : Nat)] 69 W ∧ a' = jAct (t.val oa ca ob cb) x.val.val w.heap.size gt gv oa t.n ca (wrap64 (2 ^ t.n)) (2 ^ t.n - 1) bx gB)
      (fun pre x a' A l o hl ho ⟨gB, hB, h1, h2, h3⟩ => ⟨gB, hB, h1.same (.of_put ho hl _), h2.putObj ho _, h3⟩)
      ?assign ?body ?done ?stop
    case stop =>
      intro D c pre W hD hpre h hK
      exact h.elim
    case assign =>
      intro l pre x9 W K hl hlW hi hlen hK
      have HKK := Lib.hid hK
      clear hK
      gi_wp2
      exact HKK.out _ _ ((Same.refl _ _).alloc _) ⟨W.heap.size, hi.low.size, hi.same (.of_below (below_alloc1 _ _)), Box.new _ _ _ rfl, rfl⟩
    case body =>
      rintro l pre x9 a' W hl ⟨r, hr⟩ ⟨gB, hB, hI, hX, rfl⟩ hlen
      have hBX := HBX.out
      have y0 := (hI.low.block (gv + 1) (by omega) ⟨by omega, by omega⟩)
      have zf := (⟨y0.trans HZF.out.row⟩ : Box (gv + 1) _ 62 W)
      have f0 := zf.cell 0 rfl
      have d0 := hX.cell 0 (v := .int .i64 x9.val.p.a.lo) rfl
      have d1 := hX.cell 1 (v := .int .i64 x9.val.p.a.hi) rfl
      have d2 := hX.cell 2 (v := .int .i64 x9.val.p.b.lo) rfl
      have d3 := hX.cell 3 (v := .int .i64 x9.val.p.b.hi) rfl
      have d4 := hX.cell 4 (v := .int .i64 x9.val.p.c.lo) rfl
      have d5 := hX.cell 5 (v := .int .i64 x9.val.p.c.hi) rfl
      have d6 := hX.cell 6 (v := .int .i64 (x9.val.x : Nat)) rfl
      have d7 := hX.cell 7 (v := .int .i64 (sizeN x9.val.x : Nat)) rfl
      have hlB := hX.lt
      have hlf := zf.lt
      have hTW : TabAt 1 Lib.deBruijn64tab W := fun j hj => (World.cell?_of_block (a := ⟨1, j, none⟩) (hI.low.block 1 (by omega) ⟨by omega, by omega⟩)).trans (HIT.out.hT j hj)
      have hx := x9.property.1
      have hx10 := pow_ten HK.out.n2
      have hsz := st_size (x := x9.val.x) (by omega)
      have hle := gR_size x9.property.2
      have hl2 := HK.out.l1
      have hbd : (verdF t (pre.map (fun z => z.val))).Bd := verdF_bd HK.out.n2 (fun g hg => by
        obtain ⟨z, -, rfl⟩ := List.mem_map.1 hg
        have := z.property.1
        omega)
      have HA := Lib.hid (add_any gv x9.val (verdF t (pre.map (fun z => z.val))).some (verdF t (pre.map (fun z => z.val))).sound (verdF t (pre.map (fun z => z.val))).can (verdF t (pre.map (fun z => z.val))).surely (verdF t (pre.map (fun z => z.val))).leaks W hI.hv (by omega) (by omega) hbd.c hbd.y (by omega) (by omega) hTW)
      have HI := Lib.hid hI
      have hltv := Lib.hid (show gv < W3.heap.size by omega)
      clear hI hX hTW hbd hsz hle hl2 hx hx10 y0 zf hr hBX
      gi_wp2_with fail
      refine ⟨trivial, (CallsIn.inRound l (callsIn_wide.2 HA.out)).mono ?_⟩
      rintro e W9 ⟨⟨v9, rfl⟩, hs9, hz9⟩
      have HS9 := Lib.hid hs9
      have HZ9 := Lib.hid hz9
      clear hs9 hz9
      gi_wp2
      refine ⟨HS9.out.mono fun k h1 h2 => ⟨h1, ?_⟩, ⟨?_, HI.out.low.trans (HS9.out.mono fun k h1 h2 => ⟨h1, h2.2⟩)⟩⟩
      · have := hltv.out
        rcases h2 with h2 | h2 | h2
        · exact h2.2
        · omega
        · omega
      · have e9 : verdF t ((pre ++ [x9]).map (fun z => z.val)) = (verdF t (pre.map (fun z => z.val))).add x9.val := by rw [List.map_append, List.map_cons, List.map_nil, verdF_snoc]
        rw [e9]
        exact HZ9.out
    case done =>
      rintro D xs W4 hD hxs ⟨hv4, hlow⟩ hK
      have hs := verdF_some t (xs.map (fun z => z.val))
      rw [hxs] at hv4 hs
      have hBX := HBX.out
      have c0 := hv4.cell 0 rfl
      have hlv := hv4.lt
      have HV4 := Lib.hid hv4
      have hbw : Below w.heap.size w W4 := by
        have h0 : Below w.heap.size w W3 := HBW.out.trans (HB3.out.mono (by have := HBW.out.size; have := HGV.out; omega))
        refine ⟨hlow.os.trans h0.os, hlow.tape.trans h0.tape, hlow.output.trans h0.output, Nat.le_trans h0.size hlow.size, fun k hk => ?_⟩
        rw [hlow.block k (by omega) ⟨by omega, by omega⟩]
        exact h0.block k hk
      have HBF := Lib.hid hbw
      have HK4 := Lib.hid hK
      clear hbw hK hlow hv4 hBX
      by_cases hg : gL t (2 ^ t.n) = []
      · have e1 : (verdF t (gL t (2 ^ t.n))).some = false := by rw [hs, hg]; simp
        have HG := Lib.hid hg
        clear hg hs
        go_wp2_with fail
        refine leave_mark (v := .tuple #[.pointer none, .int .i64 6]) (.inl rfl) HK4.out (by simp [results, Tryd.results14, go_sem]) ⟨below_putObj HBF.out (by have := HBX.out; have := HBW.out.size; have := HGV.out; omega) _, .inr (.inl ⟨HV.out, HG.out, rfl⟩)⟩
      · have e1 : (verdF t (gL t (2 ^ t.n))).some = true := by rw [hs]; simp [hg]
        have HG := Lib.hid hg
        clear hg hs
        go_wp2_with fail
        refine leave_mark (v := .tuple #[.pointer (some ⟨gv, 0, none⟩), .int .i64 0]) (.inl rfl) HK4.out (by simp [results, Tryd.results14, go_sem]) ⟨below_putObj HBF.out (by have := HBX.out; have := HBW.out.size; have := HGV.out; omega) _, .inr (.inr ⟨HV.out, HG.out, gv, rfl, HV4.out.putObj ⟨_, HK4.out, rfl⟩ _⟩)⟩
end Go.Proofs.YtmeeknmjhlfnaaaDoor
