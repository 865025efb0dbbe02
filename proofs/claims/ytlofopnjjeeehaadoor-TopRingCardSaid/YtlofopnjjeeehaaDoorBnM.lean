/- The least and the greatest error of a meter, as fractions, and rounded. The error of a meter, a span. Each meter of a row: the errors, and what a closure says. Errors tells the errors of a row, or why they are not known. -/
import Derived.Test.YtlofopnjjeeehaaDoorBnH
import Derived.Test.YtlofopnjjeeehaaDoorBnI
import Derived.Test.YtlofopnjjeeehaaDoorBnK
import Derived.Test.YtlofopnjjeeehaaDoorBase
namespace Go.Proofs.YtlofopnjjeeehaaDoor.Bn
open Go.RowKit


/-- four boxes of two cells in a row -/
abbrev four2 (x y p q : Spn) (t0 t1 t2 t3 : TypeId) (w : World) : World := (((w.alloc (.cells #[.int .i64 x.lo, .int .i64 x.hi] t0)).alloc (.cells #[.int .i64 y.lo, .int .i64 y.hi] t1)).alloc (.cells #[.int .i64 p.lo, .int .i64 p.hi] t2)).alloc (.cells #[.int .i64 q.lo, .int .i64 q.hi] t3)
abbrev SB (s : Spn) (t : TypeId) (g : Nat) (w : World) : Prop := Box g #[.int .i64 s.lo, .int .i64 s.hi] t w
theorem four2_boxes {x y p q : Spn} {t0 t1 t2 t3 : TypeId} {w W : World} (h : W = four2 x y p q t0 t1 t2 t3 w) :
    SB x t0 w.heap.size W ∧ SB y t1 (w.heap.size + 1) W ∧ SB p t2 (w.heap.size + 1 + 1) W ∧ SB q t3 (w.heap.size + 1 + 1 + 1) W ∧ Below w.heap.size w W ∧ W.heap.size = w.heap.size + 1 + 1 + 1 + 1 := by
  subst h
  exact ⟨(((Box.new _ t0 w rfl).old _).old _).old _, (((Box.new _ t1 _ (by simp)).old _).old _), ((Box.new _ t2 _ (by simp)).old _), Box.new _ t3 _ (by simp), ((((Below.refl _ _).alloc (by simp) _).alloc (by simp) _).alloc (by simp; omega) _).alloc (by simp; omega) _, by simp⟩
set_option maxRecDepth 100000 in
set_option maxHeartbeats 4000000 in
theorem ends_any' (v s : Spn) (w : World) (h0 : -100000000000000 ≤ v.lo ∧ v.lo ≤ 100000000000000) (h1 : -100000000000000 ≤ v.hi ∧ v.hi ≤ 100000000000000) (h2 : -100000000000000 ≤ s.lo ∧ s.lo ≤ 100000000000000) (h3 : -100000000000000 ≤ s.hi ∧ s.hi ≤ 100000000000000) :
    Calls Tryd.prog 27 #[v.val, s.val] w fun e w' => e = .returned (.tuple #[(endL v s).val, (endH v s).val]) ∧ Below w.heap.size w w' := by
  have w1 : IntKind.i64.wrap (s.lo - v.hi) = s.lo - v.hi := IntWalk.i64_in _ (by omega)
  have w2 : IntKind.i64.wrap (s.hi - v.lo) = s.hi - v.lo := IntWalk.i64_in _ (by omega)
  have w3 : IntKind.i64.wrap (10000 * (s.lo - v.hi)) = 10000 * (s.lo - v.hi) := IntWalk.i64_in _ (by omega)
  have w4 : IntKind.i64.wrap (10000 * (s.hi - v.lo)) = 10000 * (s.hi - v.lo) := IntWalk.i64_in _ (by omega)
  clear h0 h1 h2 h3
  go_enter Tryd.func27, Tryd.ntmps27
  go_wp2_with fail
  obtain ⟨W, hW⟩ : ∃ X, X = four2 v s ⟨0, 0⟩ ⟨0, 0⟩ 55 35 83 83 w := ⟨_, rfl⟩
  obtain ⟨B0, B1, B2, B3, hb, hsz⟩ := four2_boxes hW
  dsimp only [four2] at hW
  rw [← hW]
  clear hW
  have a0 := B0.cell 0 rfl
  have a1 := B0.cell 1 rfl
  have b0 := B1.cell 0 rfl
  have b1 := B1.cell 1 rfl
  have c0 := B2.cell 0 rfl
  have c1 := B2.cell 1 rfl
  have d0 := B3.cell 0 rfl
  have d1 := B3.cell 1 rfl
  have e0 := B2.frozen 0
  have e1 := B2.frozen 1
  have f0 := B3.frozen 0
  have f1 := B3.frozen 1
  have HB2 := Lib.hid B2
  have HB3 := Lib.hid B3
  clear B0 B1 B2 B3
  have pq := put4 HB2.out HB3.out (by omega) (.int .i64 (endL v s).top) (.int .i64 (endL v s).under) (.int .i64 (endH v s).top) (.int .i64 (endH v s).under)
  have hbz := (((hb.setCell (p := ⟨w.heap.size + 1 + 1, 0, none⟩) (by simp; omega) (.int .i64 (endL v s).top)).setCell (p := ⟨w.heap.size + 1 + 1, 1, none⟩) (by simp; omega) (.int .i64 (endL v s).under)).setCell (p := ⟨w.heap.size + 1 + 1 + 1, 0, none⟩) (by simp; omega) (.int .i64 (endH v s).top)).setCell (p := ⟨w.heap.size + 1 + 1 + 1, 1, none⟩) (by simp; omega) (.int .i64 (endH v s).under)
  have HP := Lib.hid pq
  have HZ := Lib.hid hbz.drew
  clear pq hbz
  go_region
  all_goals
    go_wp2_with fail
    have pq := HP.out
    dsimp only [endL, endH] at pq
    refine bodyPost_ret (v := .tuple #[.agg #[.int .i64 (10000 * (s.lo - v.hi)), .int .i64 v.hi], .agg #[.int .i64 (10000 * (s.hi - v.lo)), .int .i64 v.lo]]) (by simp [results, Tryd.results27, go_sem, pq.1, pq.2.1, pq.2.2.1, pq.2.2.2]) rfl ⟨rfl, HZ.out⟩
end Go.Proofs.YtlofopnjjeeehaaDoor.Bn
namespace Go.Proofs.YtlofopnjjeeehaaDoor.Bn
open Go.RowKit
/-- three boxes of two cells in a row -/
abbrev three2 (x y p : Spn) (t0 t1 t2 : TypeId) (w : World) : World := ((w.alloc (.cells #[.int .i64 x.lo, .int .i64 x.hi] t0)).alloc (.cells #[.int .i64 y.lo, .int .i64 y.hi] t1)).alloc (.cells #[.int .i64 p.lo, .int .i64 p.hi] t2)
theorem three2_boxes {x y p : Spn} {t0 t1 t2 : TypeId} {w W : World} (h : W = three2 x y p t0 t1 t2 w) :
    SB x t0 w.heap.size W ∧ SB y t1 (w.heap.size + 1) W ∧ SB p t2 (w.heap.size + 1 + 1) W ∧ Below w.heap.size w W ∧ W.heap.size = w.heap.size + 1 + 1 + 1 := by
  subst h
  exact ⟨((Box.new _ t0 w rfl).old _).old _, (Box.new _ t1 _ (by simp)).old _, Box.new _ t2 _ (by simp), (((Below.refl _ _).alloc (by simp) _).alloc (by simp) _).alloc (by simp; omega) _, by simp⟩
abbrev two2 (x y : Frac) (t0 t1 : TypeId) (w : World) : World := (w.alloc (.cells #[.int .i64 x.top, .int .i64 x.under] t0)).alloc (.cells #[.int .i64 y.top, .int .i64 y.under] t1)
theorem news_blk1 {W : World} {g e : Nat} {x u : Value} {j : Nat} (h : W.heap[g]? = some (.cells #[x] e (0, 0))) (hu : [x][j]? = some u) : W.cell? ((⟨g, 0, none⟩ : Addr).add j) = some u := by
  rw [add_flat, Nat.zero_add, cell_of_row W g j _ e (0, 0) h]
  simpa using hu
abbrev FB (s : Frac) (t : TypeId) (g : Nat) (w : World) : Prop := Box g #[.int .i64 s.top, .int .i64 s.under] t w
theorem two2_boxes {x y : Frac} {t0 t1 : TypeId} {w W : World} (h : W = two2 x y t0 t1 w) :
    FB x t0 w.heap.size W ∧ FB y t1 (w.heap.size + 1) W ∧ Below w.heap.size w W ∧ W.heap.size = w.heap.size + 1 + 1 := by
  subst h
  exact ⟨(Box.new _ t0 w rfl).old _, Box.new _ t1 _ (by simp), ((Below.refl _ _).alloc (by simp) _).alloc (by simp) _, by simp⟩
set_option maxRecDepth 100000 in
set_option maxHeartbeats 4000000 in
theorem meterErr_any (v s : Spn) (w : World) (h0 : 1 ≤ v.lo) (h1 : v.lo ≤ v.hi) (hv : v.hi ≤ 100000000000000) (h2 : -100000000000000 ≤ s.lo ∧ s.lo ≤ 100000000000000) (h3 : -100000000000000 ≤ s.hi ∧ s.hi ≤ 100000000000000) :
    Calls Tryd.prog 13 #[v.val, s.val] w fun e w' => e = .returned (errR v s).val ∧ Below w.heap.size w w' := by
  go_enter Tryd.func13, Tryd.ntmps13
  go_wp2_with fail
  obtain ⟨W, hW⟩ : ∃ X, X = three2 v s ⟨0, 0⟩ 55 35 35 w := ⟨_, rfl⟩
  obtain ⟨B0, B1, B2, hb, hsz⟩ := three2_boxes hW
  dsimp only [three2] at hW
  rw [← hW]
  clear hW
  have HB2 := Lib.hid B2
  clear B0 B1 B2
  refine (ends_any' v s _ (by omega) (by omega) h2 h3).mono ?_
  rintro e w1 ⟨rfl, hb1⟩
  have HR := Lib.hid (HB2.out.below hb1)
  have hbw := hb.trans (hb1.mono hb.size)
  clear hb hb1 HB2 hsz
  have hL : (0 : Int) < (endL v s).under ∧ -4000000000000000000 ≤ (endL v s).top ∧ (endL v s).top ≤ 4000000000000000000 := by simp only [endL]; omega
  have hH : (0 : Int) < (endH v s).under ∧ -4000000000000000000 ≤ (endH v s).top ∧ (endH v s).top ≤ 4000000000000000000 := by simp only [endH]; omega
  have HE := Lib.hid (show errR v s = ⟨rnd 0 (endL v s).top (endL v s).under, rnd 1 (endH v s).top (endH v s).under⟩ from rfl)
  generalize endL v s = L at *
  generalize endH v s = H at *
  go_upto_region 2 with fail
  obtain ⟨W2, hW⟩ : ∃ X, X = two2 L H 83 83 w1 := ⟨_, rfl⟩
  obtain ⟨B0, B1, hb, hsz⟩ := two2_boxes hW
  dsimp only [two2] at hW
  rw [← hW]
  clear hW
  have rl0 := HR.out.lt
  have HR2 := HR.out.below hb
  have hbw3 := hbw.trans (hb.mono hbw.size)
  obtain ⟨g, hg⟩ : ∃ N, N = w1.heap.size := ⟨_, rfl⟩
  rw [← hg] at B0 B1 rl0 hsz ⊢
  clear hg hb HR hbw
  have g0 := B0.cell 0 rfl
  have g1 := B0.cell 1 rfl
  have gl := B0.lt
  have q0 := B1.cell 0 rfl
  have q1 := B1.cell 1 rfl
  have ql := B1.lt
  have r0 := HR2.cell 0 rfl
  have r1 := HR2.cell 1 rfl
  have r2 := HR2.frozen 0
  have r3 := HR2.frozen 1
  have rl := HR2.lt
  clear B0 B1 HR2 h0 h1 h2 h3 hv
  go_region_held3 (fun w' => w'.cell? ⟨g, 0, none⟩ = some (.int .i64 L.top) ∧ w'.cell? ⟨g, 1, none⟩ = some (.int .i64 L.under) ∧ w'.cell? ⟨g + 1, 0, none⟩ = some (.int .i64 H.top) ∧ w'.cell? ⟨g + 1, 1, none⟩ = some (.int .i64 H.under)) ((refine ⟨Two.cell (p := w.heap.size + 1 + 1) (q := w.heap.size + 1 + 1) (w := W2) ?_ g0 gl (by omega) (by omega), Two.cell (p := w.heap.size + 1 + 1) (q := w.heap.size + 1 + 1) (w := W2) ?_ g1 gl (by omega) (by omega), Two.cell (p := w.heap.size + 1 + 1) (q := w.heap.size + 1 + 1) (w := W2) ?_ q0 ql (by omega) (by omega), Two.cell (p := w.heap.size + 1 + 1) (q := w.heap.size + 1 + 1) (w := W2) ?_ q1 ql (by omega) (by omega)⟩ <;> (repeat' (first | assumption | exact Two.refl _ _ _ | apply Two.drew | apply Two.setP)))) (first | ((go_at_call 23; refine (round_tu _ _ _ _ (by simp) (by omega) (by omega)).mono ?_; rintro e w9 ⟨rfl, hb9'⟩; have hbp : Below W2.heap.size W2 w9 := Below.trans (by repeat' (first | assumption | exact Below.refl _ _ | apply Below.drew)) (hb9'.mono (by first | omega | (simp; done) | (simp; omega))); have hsp := hbp.size; have htp : Two (w.heap.size + 1 + 1) (w.heap.size + 1 + 1) W2 w9 := Two.below (Two.refl _ _ _) hbp; have y0 := (hbp.cell (p := ⟨w.heap.size + 1 + 1, 0, none⟩) rl).trans r0; have y1 := (hbp.cell (p := ⟨w.heap.size + 1 + 1, 1, none⟩) rl).trans r1; have z0 := (hbp.frozen (p := ⟨w.heap.size + 1 + 1, 0, none⟩) rl).trans r2; have z1 := (hbp.frozen (p := ⟨w.heap.size + 1 + 1, 1, none⟩) rl).trans r3)))
  all_goals
    go_wp2_with fail
    have pq := put2 y0 y1 (.int .i64 (rnd 0 L.top L.under)) (.int .i64 (rnd 1 H.top H.under))
    refine bodyPost_ret (v := .agg #[.int .i64 (rnd 0 L.top L.under), .int .i64 (rnd 1 H.top H.under)]) (by simp [results, Tryd.results13, go_sem, pq.1, pq.2]) rfl ⟨by rw [HE.out], ((hbw3.trans (hbp.mono hbw3.size)).setCell (by dsimp only; omega) _).setCell (by dsimp only; omega) _⟩
end Go.Proofs.YtlofopnjjeeehaaDoor.Bn
namespace Go.Proofs.YtlofopnjjeeehaaDoor.Bn
open Go.RowKit
theorem owns_below {w w' : World} {base e size n : Nat} {v : Value} {xs : List Value} (h : w.ownsRow base e size v n xs) (hb : Below w.heap.size w w') : w'.ownsRow base e size v n xs :=
  h.kept (row := none) ⟨hb.os, hb.tape, hb.output, hb.size, fun k hk _ => hb.block k hk⟩ (by cases v.ownBlock <;> simp)
theorem owns_none {w : World} {base e size : Nat} : w.ownsRow base e size (.slice none 0 0) 0 [] := ⟨by simp, .inl ⟨rfl, rfl⟩⟩
def spanNews (n : Nat) (f : Nat → Spn) : List Value := pairNews n (fun i => (f i).lo) (fun i => (f i).hi)
theorem owns_spans {w : World} {base e n : Nat} {v : Value} {f : Nat → Spn} (h : w.ownsRow base e 2 v n (spanNews n f)) : ∃ oa cap, v = .slice oa n cap ∧ SpnsAt w oa n f ∧ ∀ a, oa = some a → base ≤ a.block := owns_pairs h
set_option maxRecDepth 100000 in
set_option maxHeartbeats 4000000 in
theorem eachErr_any (v : Spn) (or : Option Addr) (m cr : Nat) (r : Nat → Spn) (w : World) (h0 : 1 ≤ v.lo) (h1 : v.lo ≤ v.hi) (hv : v.hi ≤ 100000000000000) (hm : m ≤ 1000) (hR : SpnsAt w or m r) (hr : ∀ i, i < m → 0 ≤ (r i).lo ∧ (r i).lo ≤ (r i).hi ∧ (r i).hi ≤ 1073741824) :
    Calls Tryd.prog 12 #[.slice or m cr, .func (.func 13) #[v.val] #[]] w fun e w' => ∃ oo cp, e = .returned (.slice oo m cp) ∧ w'.ownsRow w.heap.size 35 2 (.slice oo m cp) m (spanNews m (fun i => errR v (r i))) ∧ Below w.heap.size w w' := by
  have HL := Lib.hid hR
  have HB := Lib.hid hr
  clear hR hr
  obtain ⟨iR, hiR, hzR0, hzR1, hzR2⟩ := info_parts (P := Tryd.prog) (e := 35) (z := .agg #[.int .i64 0, .int .i64 0]) (size := 2) (bytes := 16) (by kernel_rfl)
  go_enter Tryd.func12, Tryd.ntmps12
  go_wp2_with fail
  go_loopw [4, 9] (fun v4 v9 wr => ∃ k : Nat, k ≤ m ∧ v9 = .int .i64 k ∧ wr.ownsRow w.heap.size 35 2 v4 k (spanNews k (fun i => errR v (r i))) ∧ Below w.heap.size w wr) (fun _ i _ => m - (intOf i).toNat)
  case atStart => exact ⟨0, Nat.zero_le _, rfl, owns_none, Below.refl _ _⟩
  case round =>
    obtain ⟨k, hk, rfl, hown, hb⟩ := hrel
    by_cases hlt : k < m
    · have hd0 : decide (k < m) = true := by simpa using hlt
      obtain ⟨bb, off, rfl, hlt0, c0, c1⟩ := (HL.out.mono hb) k hlt
      obtain ⟨b0, b1, b2⟩ := HB.out k hlt
      obtain ⟨oS, cS, rfl, -⟩ := owns_form hown
      go_wp2_with fail
      refine (meterErr_any v (r k) _ h0 h1 hv (by omega) (by omega)).mono ?_
      rintro e w1 ⟨rfl, hb1⟩
      have hbz := (below_alloc1 wr (.cells #[.int .i64 (r k).lo, .int .i64 (r k).hi] 35)).trans (hb1.mono (by simp))
      have hown1 := owns_below hown hbz
      have hbr := hb.trans (hbz.mono hb.size)
      have hs1 := hbr.size
      clear hown hbz hb1 c0 c1 hlt0
      go_wp2_with (at_builtin; refine wpList_append_gen rfl (.tmp 13) (.tmp 17) _ rfl w.heap.size 35 iR _ 2 16 Tryd.underlying38 hiR hzR0 hzR1 hzR2 rfl (by omega) (.slice oS k cS) k (spanNews k (fun i => errR v (r i))) rfl (some ⟨w1.heap.size, 0, none⟩) 1 1 [.int .i64 (errR v (r k)).lo, .int .i64 (errR v (r k)).hi] rfl (hown1.alloc _) (fun e9 => by cases e9) rfl (fun ad9 e9 j9 u9 hu9 => by cases e9; exact news_blk2 (e := 35) (heap_new rfl) hu9) (by simp [Value.oneCell']) (by simp only [maxLen]; omega) (by omega) (by simp; omega) ?_; intro vS wS hownS hgrowS)
      go_roundw
      case rel => exact ⟨k + 1, by omega, by go_num, by unfold spanNews; rw [pair_news_succ]; exact hownS, hbr.trans ((below_alloc1 w1 _).mono (by omega) |>.trans (below_row hown1 hgrowS (by omega)))⟩
      case measure => simp [intOf]; omega
    · obtain rfl : k = m := by omega
      have hd0 : decide (k < k) = false := by simp
      obtain ⟨oS, cS, rfl, -⟩ := owns_form hown
      have HS := Lib.hid hown
      clear hown
      go_wp2_with fail
      go_ret
      exact ⟨oS, cS, rfl, HS.out, hb⟩
end Go.Proofs.YtlofopnjjeeehaaDoor.Bn
namespace Go.Proofs.YtlofopnjjeeehaaDoor.Bn
open Go.RowKit
set_option maxRecDepth 100000 in
set_option maxHeartbeats 4000000 in
theorem Errors_any (b : Bnch) (x : Ctch) (oa : Option Addr) (cap : Nat) (or : Option Addr) (m cr : Nat) (r : Nat → Spn) (w : World) (hn : b.n ≤ 1000000) (hcap : b.n ≤ cap) (hT : MarksAt w oa b.n b.t) (hm : m ≤ 1000) (hR : SpnsAt w or m r) :
    Calls Tryd.prog 6 #[b.val oa cap, x.val, .slice or m cr] w fun e w' => ∃ oo cp, e = .returned (.tuple #[.slice oo (cnt (b.testR x m r).2 m) cp, .int .i64 (b.testR x m r).2]) ∧ (∃ B, w.heap.size ≤ B ∧ w'.ownsRow B 35 2 (.slice oo (cnt (b.testR x m r).2 m) cp) (cnt (b.testR x m r).2 m) (spanNews (cnt (b.testR x m r).2 m) (fun i => errR (b.testR x m r).1 (r i)))) ∧ Below w.heap.size w w' := by
  have HN := Lib.hid (fun (w' : World) (hb : Below w.heap.size w w') => newTest_any b x oa cap or m cr r w' hn hcap (hT.mono hb) (by omega) (hR.mono hb))
  have HL := Lib.hid hR
  have hok := testR_ok (b := b) (x := x) (m := m) (r := r)
  clear hT hR
  generalize b.testR x m r = p at *
  obtain ⟨v, e9⟩ := p
  dsimp only at hok ⊢
  have HO := Lib.hid hok
  clear hok
  go_enter Tryd.func6, Tryd.ntmps6
  go_wp2_with fail
  have hbw : Below w.heap.size w (two 37 b oa cap x w) := two_below 37 b oa cap x w
  refine (HN.out _ hbw).mono ?_
  rintro e w1 ⟨rfl, hb1⟩
  have hbw1 := hbw.trans (hb1.mono hbw.size)
  clear hb1 hbw
  go_upto_region 2 with fail
  have T8 := (Box.new #[.int .i64 v.lo, .int .i64 v.hi] 55 w1 rfl)
  have hbw2 := hbw1.alloc hbw1.size (.cells #[.int .i64 v.lo, .int .i64 v.hi] 55)
  have hr1 := hbw1.size
  obtain ⟨g, hg⟩ : ∃ N, N = w1.heap.size := ⟨_, rfl⟩
  obtain ⟨w2, hw2⟩ : ∃ X, X = w1.alloc (.cells #[.int .i64 v.lo, .int .i64 v.hi] 55) := ⟨_, rfl⟩
  rw [← hw2] at T8 hbw2 ⊢
  rw [← hg] at T8 hr1 ⊢
  clear hw2 hg hbw1
  have t0 := T8.cell 0 rfl
  have t1 := T8.cell 1 rfl
  have tl := T8.lt
  clear T8
  by_cases he : e9 = 0
  · subst he
    obtain ⟨k0, k1, k2, k3, k4⟩ := HO.out rfl
    have HB := Lib.hid k4
    clear k4
    go_wp2_with fail
    refine (eachErr_any v or m cr r _ k0 k1 (by omega) hm (HL.out.mono hbw2) HB.out).mono ?_
    rintro e w3 ⟨oo, cp, rfl, hS, hb3⟩
    have HS := Lib.hid hS
    clear hS
    go_wp2_with fail
    refine bodyPost_ret (v := .tuple #[.slice oo m cp, .int .i64 0]) (by simp [results, Tryd.results6, go_sem]) rfl ⟨oo, cp, rfl, ⟨_, hbw2.size, HS.out⟩, hbw2.trans (hb3.mono hbw2.size)⟩
  · have hne : (e9 != 0) = true := by simpa using he
    go_wp2_with fail
    refine bodyPost_ret (v := .tuple #[.slice none 0 0, .int .i64 e9]) (by simp [results, Tryd.results6, go_sem]) rfl ⟨none, 0, by rw [cnt_ne he], ⟨w.heap.size, Nat.le_refl _, by rw [cnt_ne he]; exact owns_none⟩, (by repeat' (first | exact Below.refl _ _ | assumption | apply below_drewN | apply Below.drew | (refine Below.alloc ?_ ?_ _) | (refine Below.setCell ?_ ?_ _) | (simp; done) | (simp; omega) | omega))⟩
end Go.Proofs.YtlofopnjjeeehaaDoor.Bn
