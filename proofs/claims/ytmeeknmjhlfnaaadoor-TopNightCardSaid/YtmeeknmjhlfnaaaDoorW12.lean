/- add takes in what a set that fits says of the streets: its own walk. -/
import Derived.Test.YtmeeknmjhlfnaaaDoorW11
namespace Go.Proofs.YtmeeknmjhlfnaaaDoor
open Go.RowKit
section
variable {P : Program} {Q : Exit → Act → World → Prop} {md : Region.Mode} {C0 C1 : World → Prop} {st : Nat}
/-- a guarded operation that does not come up is passed over -/
theorem wpAnyP_skip {l r : List Oper} {i : Nat} {oi : Oper} {fuel : Nat} {listed : Array Bool} {a : Act} {w : World} (h0 : ∀ w w', C0 w → Below w.heap.size w w' → C0 w') (h1 : ∀ w w', C1 w → Below w.heap.size w w' → C1 w') (hw : Ph st C0 C1 listed w) (hne : i ≠ st) (hi : l.drop i = oi :: r)
    (hs : Region.noSelect l.toArray = true) (hf : Region.free md l.toArray listed i = true) (hr : (Region.ready md l.toArray listed).contains i = true)
    (hQ : ∀ c a v w, Q (.panic c) (a.put oi.dst v) w → Q (.panic c) a w) (hwa : Region.wanted oi (yielded l.toArray a.tmps) = false)
    (h : wpAnyP P md l.toArray (Ph st C0 C1) Q fuel (listed.setIfInBounds i true) (a.put oi.dst undef) w) : wpAnyP P md l.toArray (Ph st C0 C1) Q (fuel + 1) listed a w :=
  wpAnyP_first (D := fun _ => True) (fun _ => True) (Ph.on h0 h1) (Ph.up hne) (Ph.dn hne) (fun _ _ _ _ => trivial) (fun _ _ _ _ _ _ _ => trivial)
    (drop_get hi) (Region.noSelect_spec hs) hQ fuel listed a _ w trivial hw (Region.free_spec (drop_get hi) hf) (by simpa using hr) (.inr ⟨hwa, rfl⟩) h
theorem run_storeAt_bool (w : World) (b o : Nat) (ty : TypeId) (n : Bool) (ht : w.there b o 1) (hi : (P.info? ty).map (·.size) = some 1) :
    (Instr.storeAt ty (.pointer (some ⟨b, o, none⟩)) (.bool n)).run P w = .ok () (w.setCell ⟨b, o, none⟩ (.bool n)) := by
  have := run_storeCells_cells (P := P) b o [.bool n] 0 w (fun j hj => by simpa using (ht j (by simpa using hj)).1) (fun j hj => by simpa using (ht j (by simpa using hj)).2) (fun v hv => by simp at hv; subst hv; rfl)
  cases hq : P.info? ty with
  | none => simp [hq] at hi
  | some i =>
    have hs : i.size = 1 := by simp [hq] at hi; omega
    simp only [Nat.add_zero, World.setCells] at this
    simp only [Instr.storeAt, Instr.sureAddr, Sem.run_bind, Sem.run_pure, Result.andThen_ok]
    simp [storeVar, sizeOf, typeInfo, hq, Value.cells, hs, this]
theorem wp_store_bool {op : Oper} {a : Act} {w : World} {K : Act → World → Prop} {ty : TypeId} {x y : Operand} {g o : Nat} {n : Bool} {cs : Array Value} {t : TypeId} (hB : Box g cs t w) (ho : op.op = .store ty x y) (hx : a.eval x = .pointer (some ⟨g, o, none⟩)) (hy : a.eval y = .bool n)
    (hs : o < cs.size) (hi : (P.info? ty).map (·.size) = some 1) (h : ∀ w', Box g (cs.setIfInBounds o (.bool n)) t w' → Only g w w' → K (a.put op.dst undef) w') : op.wp P a w K Q := by
  unfold Oper.wp execOp
  simp only [ho, hx, hy, run_storeAt_bool w g o ty n (hB.thereAt (by omega)) hi, Sem.run_bind, Sem.run_pure, Result.andThen_ok]
  exact h _ (hB.set _ _) ((Only.refl _ _).setCell _ _)
end
theorem i64_or_nat (a b : Nat) (ha : a < 9223372036854775808) (hb : b < 9223372036854775808) : bits .or .i64 (a : Int) (b : Int) = ((a ||| b : Nat) : Int) := by
  have hx : a ||| b < 2 ^ 63 := Nat.or_lt_two_pow (by omega) (by omega)
  show IntKind.i64.wrap ((BitVec.ofInt 64 (a : Int) ||| BitVec.ofInt 64 (b : Int)).toNat : Int) = _
  rw [BitVec.toNat_or, ofInt_i64 a ha, ofInt_i64 b hb, IntKind.wrap_i64]
  omega
theorem leaks_mem {g : Gs} {pre rest : List Nat} {s : Nat} (h : stL g.x = pre ++ s :: rest) (hl : (stL g.x).length ≤ 2) : pre.length < 2 ∧ s < 10 := by
  have hm : s ∈ stL g.x := by rw [h]; simp
  refine ⟨?_, st_mem hm⟩
  rw [h] at hl; simp at hl; omega
set_option maxRecDepth 100000 in
set_option maxHeartbeats 4000000 in
theorem add_any (gv : Nat) (g : Gs) (so sn : Bool) (c y : Nat) (l : Nat → Spn) (w : World) (h : Box gv (vdCells so sn c y l) 56 w) (hx : g.x < 1024) (hl : (stL g.x).length ≤ 2) (hc : c < 1024) (hy : y < 1024) (h1 : 1 < w.heap.size) (n1 : 1 ≠ gv) (hT : TabAt 1 Lib.deBruijn64tab w) :
    Calls Tryd.prog 21 #[.pointer (some ⟨gv, 0, none⟩), g.val] w fun e W' => (∃ v, e = .returned v) ∧ Same (fun b => b < w.heap.size ∧ b ≠ gv) w W' ∧ Box gv (vdCells true (sn || decide (g.x = 0)) (c ||| g.x) (y &&& g.x) (leaksK g c l (stL g.x)).2) 56 W' := by
  have HB := Lib.hid h
  have HL := Lib.hid hl
  have HN := Lib.hid n1
  have HT := Lib.hid hT
  have HS := Lib.hid (show sizeN g.x = sizeN g.x from rfl)
  have hlt := h.lt
  clear h hl n1 hT
  go_enter Tryd.func21, Tryd.ntmps21
  go_wp2_with fail
  have zg := Box.new (g := w.heap.size + 1) #[.int .i64 g.p.a.lo, .int .i64 g.p.a.hi, .int .i64 g.p.b.lo, .int .i64 g.p.b.hi, .int .i64 g.p.c.lo, .int .i64 g.p.c.hi, .int .i64 (g.x : Nat), .int .i64 (sizeN g.x : Nat)] 69 (w.alloc (.cells #[.pointer (some ⟨gv, 0, none⟩)] 51)) (by simp)
  have zb := (Box.new (g := w.heap.size) #[.pointer (some ⟨gv, 0, none⟩)] 51 w rfl).old (.cells #[.int .i64 g.p.a.lo, .int .i64 g.p.a.hi, .int .i64 g.p.b.lo, .int .i64 g.p.b.hi, .int .i64 g.p.c.lo, .int .i64 g.p.c.hi, .int .i64 (g.x : Nat), .int .i64 (sizeN g.x : Nat)] 69)
  have hbw : Below w.heap.size w ((w.alloc (.cells #[.pointer (some ⟨gv, 0, none⟩)] 51)).alloc (.cells #[.int .i64 g.p.a.lo, .int .i64 g.p.a.hi, .int .i64 g.p.b.lo, .int .i64 g.p.b.hi, .int .i64 g.p.c.lo, .int .i64 g.p.c.hi, .int .i64 (g.x : Nat), .int .i64 (sizeN g.x : Nat)] 69)) := (by repeat' (first | exact Below.refl _ _ | assumption | apply below_drewN | apply Below.drew | (refine Below.alloc ?_ ?_ _) | (refine Below.setCell ?_ ?_ _) | (simp; done) | (simp; omega) | omega))
  obtain ⟨W2, hW2⟩ : ∃ X, X = ((w.alloc (.cells #[.pointer (some ⟨gv, 0, none⟩)] 51)).alloc (.cells #[.int .i64 g.p.a.lo, .int .i64 g.p.a.hi, .int .i64 g.p.b.lo, .int .i64 g.p.b.hi, .int .i64 g.p.c.lo, .int .i64 g.p.c.hi, .int .i64 (g.x : Nat), .int .i64 (sizeN g.x : Nat)] 69)) := ⟨_, rfl⟩
  obtain ⟨gb, hgb⟩ : ∃ n, n = w.heap.size := ⟨_, rfl⟩
  obtain ⟨gg, hgg⟩ : ∃ n, n = gb + 1 := ⟨_, rfl⟩
  rw [← hW2] at zg zb hbw ⊢
  rw [← hgb] at zg zb hbw ⊢
  rw [← hgg] at zg ⊢
  have ng : gg ≠ gv := by omega
  have nb : gb ≠ gv := by omega
  have hgb1 := Lib.hid h1
  rw [← hgb] at h1 hgb1 hlt
  refine (streetsOf_any g.x hx 27 _ (enters_of Tryd.func27 (by kernel_rfl) rfl) (fun pre W' => Ad gb gg gb gv g so sn c y (leaksK g c l pre).2 w W') W2 (fun pre W' hI j hj => (hI.low.cell (a := ⟨1, j, none⟩) (by rw [← hgb]; exact h1) ⟨h1, HN.out⟩).trans (HT.out j hj)) ⟨Same.of_below hbw fun _ _ hk => hk.1, zg, zb, HB.out.below (by rw [← hgb]; exact hbw)⟩ (fun pre s rest W' hsp hI => ?_)).mono ?_
  · obtain ⟨hp, hs⟩ := leaks_mem hsp HL.out
    refine (add1_any gb gg gb gv g so sn c y _ pre.length s w W' hI hp hs hc ng nb).mono ?_
    rintro e W4 ⟨hv, hA⟩
    refine ⟨hv, ?_⟩
    show Ad gb gg gb gv g so sn c y (leaksK g c l (pre ++ [s])).2 w W4
    rw [leaksK_snoc]
    exact hA
  rintro e W3 ⟨⟨v3, rfl⟩, hA⟩
  obtain ⟨lz, hlz⟩ : ∃ z, z = (leaksK g c l (stL g.x)).2 := ⟨_, rfl⟩
  rw [← hlz] at hA
  have HLZ := Lib.hid hlz
  have HA := Lib.hid hA
  clear hlz
  have HGB := Lib.hid hgb
  clear hgb hgg
  go_upto_region 2 with fail
  have ZG := HA.out.hg
  have ZB := HA.out.hb
  have ZV := HA.out.hv
  have hP0 : ∀ A B : World, Below W3.heap.size W3 A → Below A.heap.size A B → Below W3.heap.size W3 B := fun A B h1 h2 => h1.trans (h2.mono h1.size)
  have hP1 : ∀ A B : World, gv < A.heap.size → Below A.heap.size A B → gv < B.heap.size := fun _ _ h1 h2 => Nat.lt_of_lt_of_le h1 h2.size
  have ltV : gv < W3.heap.size := ZV.lt
  have hP01 : ∀ A : World, Below W3.heap.size W3 A → gv < A.heap.size := fun A h1 => Nat.lt_of_lt_of_le ltV h1.size
  have hC0 : Below W3.heap.size W3 W3.drew := (Below.refl _ _).drew
  refine wp_region_phase 9 (Below W3.heap.size W3) (fun W => gv < W.heap.size) (by kernel_rfl) ?_
  (refine wpAnyP_take0 (i := 0) hP0 hP1 hC0 (by decide) (by rfl) rfl (by kernel_rfl) rfl (by kernel_rfl) (by kernel_rfl) (by kernel_rfl) (fun _ _ _ _ h => h) (by rfl) ?_; apply Exists.intro; refine ⟨fun w1 h1 K hK => ?_, ?_⟩; · (have f0 : ∀ W : Aft w1, W.val.cell? ⟨gb, 0, none⟩ = some (.pointer (some ⟨gv, 0, none⟩)) := fun W => (ZB.below (hP0 _ _ h1 W.below)).cell 0 rfl; go_big_quiet_op; first | exact hK | fail))
  (refine wpAnyP_take0 (i := 1) hP0 hP1 hC0 (by decide) (by rfl) rfl (by kernel_rfl) rfl (by kernel_rfl) (by kernel_rfl) (by kernel_rfl) (fun _ _ _ _ h => h) (by rfl) ?_; apply Exists.intro; refine ⟨fun w1 h1 K hK => ?_, ?_⟩; · (have f0 : ∀ W : Aft w1, gv < W.val.heap.size := fun W => (ZV.below (hP0 _ _ h1 W.below)).lt; go_big_quiet_op; first | exact hK | fail))
  (refine wpAnyP_take0 (i := 2) hP0 hP1 hC0 (by decide) (by rfl) rfl (by kernel_rfl) rfl (by kernel_rfl) (by kernel_rfl) (by kernel_rfl) (fun _ _ _ _ h => h) (by rfl) ?_; apply Exists.intro; refine ⟨fun w1 h1 K hK => ?_, ?_⟩; · ( go_big_quiet_op; first | exact hK | fail))
  (refine wpAnyP_take0 (i := 3) hP0 hP1 hC0 (by decide) (by rfl) rfl (by kernel_rfl) rfl (by kernel_rfl) (by kernel_rfl) (by kernel_rfl) (fun _ _ _ _ h => h) (by rfl) ?_; apply Exists.intro; refine ⟨fun w1 h1 K hK => ?_, ?_⟩; · (have f0 : ∀ W : Aft w1, W.val.cell? ⟨gv, 2, none⟩ = some (.int .i64 (c : Nat)) := fun W => (ZV.below (hP0 _ _ h1 W.below)).cell 2 rfl; go_big_quiet_op; first | exact hK | fail))
  (refine wpAnyP_take0 (i := 4) hP0 hP1 hC0 (by decide) (by rfl) rfl (by kernel_rfl) rfl (by kernel_rfl) (by kernel_rfl) (by kernel_rfl) (fun _ _ _ _ h => h) (by rfl) ?_; apply Exists.intro; refine ⟨fun w1 h1 K hK => ?_, ?_⟩; · ( go_big_quiet_op; first | exact hK | fail))
  (refine wpAnyP_take0 (i := 5) hP0 hP1 hC0 (by decide) (by rfl) rfl (by kernel_rfl) rfl (by kernel_rfl) (by kernel_rfl) (by kernel_rfl) (fun _ _ _ _ h => h) (by rfl) ?_; apply Exists.intro; refine ⟨fun w1 h1 K hK => ?_, ?_⟩; · (have f0 : ∀ W : Aft w1, W.val.cell? ⟨gg, 6, none⟩ = some (.int .i64 (g.x : Nat)) := fun W => (ZG.below (hP0 _ _ h1 W.below)).cell 6 rfl; go_big_quiet_op; first | exact hK | fail))
  (refine wpAnyP_take0 (i := 6) hP0 hP1 hC0 (by decide) (by rfl) rfl (by kernel_rfl) rfl (by kernel_rfl) (by kernel_rfl) (by kernel_rfl) (fun _ _ _ _ h => h) (by rfl) ?_; apply Exists.intro; refine ⟨fun w1 h1 K hK => ?_, ?_⟩; · ( go_big_quiet_op; first | exact hK | fail))
  (refine wpAnyP_take1 (i := 7) hP0 hP1 hP01 hC0 (by decide) rfl (by kernel_rfl) (by kernel_rfl) (by kernel_rfl) (fun _ _ _ _ h => h) (by rfl) ?_; apply Exists.intro; refine ⟨fun w1 h1 K hK => ?_, ?_⟩; · (have f0 : ∀ W : Aft w1, gv < W.val.heap.size := fun W => hP1 _ _ h1 W.below; go_big_quiet_op; first | exact hK | fail))
  (refine wpAnyP_take1 (i := 8) hP0 hP1 hP01 hC0 (by decide) rfl (by kernel_rfl) (by kernel_rfl) (by kernel_rfl) (fun _ _ _ _ h => h) (by rfl) ?_; apply Exists.intro; refine ⟨fun w1 h1 K hK => ?_, ?_⟩; · ( go_big_quiet_op; first | exact hK | fail))
  (refine wpAnyP_one (i := 9) (by kernel_rfl) rfl (by rfl) (fun wa hwa K hK => ?_))
  refine wp_store_int (ZV.drew.below hwa) rfl rfl rfl (by simp) (by kernel_rfl) (fun ws zs ho => ?_); dsimp only [Act.put]
  have zs2 : Box gv (vdCells (so) (sn) (c ||| g.x) (y) lz) 56 ws := by
    rw [i64_or_nat c g.x (by omega) (by omega)] at zs; exact zs
  refine hK _ _ (zs.lt) ?_
  refine wpAnyP_done (by kernel_rfl) (fun W4 hW4 => ?_) _
  have hA := hP0 _ _ hC0 hwa
  have hS1 : Same (fun b => b < gb ∧ b ≠ gv) wa W4 := (show Same (fun b => b < gb ∧ b ≠ gv) wa ws from ⟨ho.os, ho.tape, ho.output, Nat.le_of_eq ho.size.symm, fun b _ hp => ho.block b hp.2⟩).trans (Same.of_below hW4 fun _ hk _ => hk)
  have hA2 : Ad gb gg gb gv g (so) (sn) (c ||| g.x) (y) lz w W4 := ⟨HA.out.low.trans ((Same.of_below hA fun _ hk _ => hk).trans hS1), (ho.box (ZG.below hA) ng).below hW4, (ho.box (ZB.below hA) nb).below hW4, zs2.below hW4⟩
  clear hP0 hP1 hP01 ltV hC0 hwa hW4 hA hS1 ho zs zs2 hK K ZB ZV ZG HA
  have HA := Lib.hid hA2
  clear hA2
  go_upto_region 3 with fail
  have ZG := HA.out.hg
  have ZB := HA.out.hb
  have ZV := HA.out.hv
  have hP0 : ∀ A B : World, Below W4.heap.size W4 A → Below A.heap.size A B → Below W4.heap.size W4 B := fun A B h1 h2 => h1.trans (h2.mono h1.size)
  have hP1 : ∀ A B : World, gv < A.heap.size → Below A.heap.size A B → gv < B.heap.size := fun _ _ h1 h2 => Nat.lt_of_lt_of_le h1 h2.size
  have ltV : gv < W4.heap.size := ZV.lt
  have hP01 : ∀ A : World, Below W4.heap.size W4 A → gv < A.heap.size := fun A h1 => Nat.lt_of_lt_of_le ltV h1.size
  have hC0 : Below W4.heap.size W4 W4.drew := (Below.refl _ _).drew
  refine wp_region_phase 9 (Below W4.heap.size W4) (fun W => gv < W.heap.size) (by kernel_rfl) ?_
  (refine wpAnyP_take0 (i := 0) hP0 hP1 hC0 (by decide) (by rfl) rfl (by kernel_rfl) rfl (by kernel_rfl) (by kernel_rfl) (by kernel_rfl) (fun _ _ _ _ h => h) (by rfl) ?_; apply Exists.intro; refine ⟨fun w1 h1 K hK => ?_, ?_⟩; · (have f0 : ∀ W : Aft w1, W.val.cell? ⟨gb, 0, none⟩ = some (.pointer (some ⟨gv, 0, none⟩)) := fun W => (ZB.below (hP0 _ _ h1 W.below)).cell 0 rfl; go_big_quiet_op; first | exact hK | fail))
  (refine wpAnyP_take0 (i := 1) hP0 hP1 hC0 (by decide) (by rfl) rfl (by kernel_rfl) rfl (by kernel_rfl) (by kernel_rfl) (by kernel_rfl) (fun _ _ _ _ h => h) (by rfl) ?_; apply Exists.intro; refine ⟨fun w1 h1 K hK => ?_, ?_⟩; · (have f0 : ∀ W : Aft w1, gv < W.val.heap.size := fun W => (ZV.below (hP0 _ _ h1 W.below)).lt; go_big_quiet_op; first | exact hK | fail))
  (refine wpAnyP_take0 (i := 2) hP0 hP1 hC0 (by decide) (by rfl) rfl (by kernel_rfl) rfl (by kernel_rfl) (by kernel_rfl) (by kernel_rfl) (fun _ _ _ _ h => h) (by rfl) ?_; apply Exists.intro; refine ⟨fun w1 h1 K hK => ?_, ?_⟩; · ( go_big_quiet_op; first | exact hK | fail))
  (refine wpAnyP_take0 (i := 3) hP0 hP1 hC0 (by decide) (by rfl) rfl (by kernel_rfl) rfl (by kernel_rfl) (by kernel_rfl) (by kernel_rfl) (fun _ _ _ _ h => h) (by rfl) ?_; apply Exists.intro; refine ⟨fun w1 h1 K hK => ?_, ?_⟩; · (have f0 : ∀ W : Aft w1, W.val.cell? ⟨gv, 3, none⟩ = some (.int .i64 (y : Nat)) := fun W => (ZV.below (hP0 _ _ h1 W.below)).cell 3 rfl; go_big_quiet_op; first | exact hK | fail))
  (refine wpAnyP_take0 (i := 4) hP0 hP1 hC0 (by decide) (by rfl) rfl (by kernel_rfl) rfl (by kernel_rfl) (by kernel_rfl) (by kernel_rfl) (fun _ _ _ _ h => h) (by rfl) ?_; apply Exists.intro; refine ⟨fun w1 h1 K hK => ?_, ?_⟩; · ( go_big_quiet_op; first | exact hK | fail))
  (refine wpAnyP_take0 (i := 5) hP0 hP1 hC0 (by decide) (by rfl) rfl (by kernel_rfl) rfl (by kernel_rfl) (by kernel_rfl) (by kernel_rfl) (fun _ _ _ _ h => h) (by rfl) ?_; apply Exists.intro; refine ⟨fun w1 h1 K hK => ?_, ?_⟩; · (have f0 : ∀ W : Aft w1, W.val.cell? ⟨gg, 6, none⟩ = some (.int .i64 (g.x : Nat)) := fun W => (ZG.below (hP0 _ _ h1 W.below)).cell 6 rfl; go_big_quiet_op; first | exact hK | fail))
  (refine wpAnyP_take0 (i := 6) hP0 hP1 hC0 (by decide) (by rfl) rfl (by kernel_rfl) rfl (by kernel_rfl) (by kernel_rfl) (by kernel_rfl) (fun _ _ _ _ h => h) (by rfl) ?_; apply Exists.intro; refine ⟨fun w1 h1 K hK => ?_, ?_⟩; · ( go_big_quiet_op; first | exact hK | fail))
  (refine wpAnyP_take1 (i := 7) hP0 hP1 hP01 hC0 (by decide) rfl (by kernel_rfl) (by kernel_rfl) (by kernel_rfl) (fun _ _ _ _ h => h) (by rfl) ?_; apply Exists.intro; refine ⟨fun w1 h1 K hK => ?_, ?_⟩; · (have f0 : ∀ W : Aft w1, gv < W.val.heap.size := fun W => hP1 _ _ h1 W.below; go_big_quiet_op; first | exact hK | fail))
  (refine wpAnyP_take1 (i := 8) hP0 hP1 hP01 hC0 (by decide) rfl (by kernel_rfl) (by kernel_rfl) (by kernel_rfl) (fun _ _ _ _ h => h) (by rfl) ?_; apply Exists.intro; refine ⟨fun w1 h1 K hK => ?_, ?_⟩; · ( go_big_quiet_op; first | exact hK | fail))
  (refine wpAnyP_one (i := 9) (by kernel_rfl) rfl (by rfl) (fun wa hwa K hK => ?_))
  refine wp_store_int (ZV.drew.below hwa) rfl rfl rfl (by simp) (by kernel_rfl) (fun ws zs ho => ?_); dsimp only [Act.put]
  have zs2 : Box gv (vdCells (so) (sn) (c ||| g.x) (y &&& g.x) lz) 56 ws := by
    rw [i64_and_nat y g.x (by omega) (by omega)] at zs; exact zs
  refine hK _ _ (zs.lt) ?_
  refine wpAnyP_done (by kernel_rfl) (fun W5 hW5 => ?_) _
  have hA := hP0 _ _ hC0 hwa
  have hS1 : Same (fun b => b < gb ∧ b ≠ gv) wa W5 := (show Same (fun b => b < gb ∧ b ≠ gv) wa ws from ⟨ho.os, ho.tape, ho.output, Nat.le_of_eq ho.size.symm, fun b _ hp => ho.block b hp.2⟩).trans (Same.of_below hW5 fun _ hk _ => hk)
  have hA2 : Ad gb gg gb gv g (so) (sn) (c ||| g.x) (y &&& g.x) lz w W5 := ⟨HA.out.low.trans ((Same.of_below hA fun _ hk _ => hk).trans hS1), (ho.box (ZG.below hA) ng).below hW5, (ho.box (ZB.below hA) nb).below hW5, zs2.below hW5⟩
  clear hP0 hP1 hP01 ltV hC0 hwa hW5 hA hS1 ho zs zs2 hK K ZB ZV ZG HA
  have HA := Lib.hid hA2
  clear hA2
  go_upto_region 4 with fail
  have ZG := HA.out.hg
  have ZB := HA.out.hb
  have ZV := HA.out.hv
  have hP0 : ∀ A B : World, Below W5.heap.size W5 A → Below A.heap.size A B → Below W5.heap.size W5 B := fun A B h1 h2 => h1.trans (h2.mono h1.size)
  have hP1 : ∀ A B : World, gv < A.heap.size → Below A.heap.size A B → gv < B.heap.size := fun _ _ h1 h2 => Nat.lt_of_lt_of_le h1 h2.size
  have ltV : gv < W5.heap.size := ZV.lt
  have hP01 : ∀ A : World, Below W5.heap.size W5 A → gv < A.heap.size := fun A h1 => Nat.lt_of_lt_of_le ltV h1.size
  have hC0 : Below W5.heap.size W5 W5.drew := (Below.refl _ _).drew
  have hx0 : ((g.x : Int) == 0) = decide (g.x = 0) := by
    by_cases h : g.x = 0
    · simp [h]
    · simp [h]
  have HX0 := Lib.hid hx0
  clear hx0
  cases sn
  · refine wp_region_phase 12 (Below W5.heap.size W5) (fun W => gv < W.heap.size) (by kernel_rfl) ?_
    (refine wpAnyP_take0 (i := 0) hP0 hP1 hC0 (by decide) (by rfl) rfl (by kernel_rfl) rfl (by kernel_rfl) (by kernel_rfl) (by kernel_rfl) (fun _ _ _ _ h => h) (by rfl) ?_; apply Exists.intro; refine ⟨fun w1 h1 K hK => ?_, ?_⟩; · (have f0 : ∀ W : Aft w1, W.val.cell? ⟨gb, 0, none⟩ = some (.pointer (some ⟨gv, 0, none⟩)) := fun W => (ZB.below (hP0 _ _ h1 W.below)).cell 0 rfl; go_big_quiet_op; first | exact hK | fail))
    (refine wpAnyP_take0 (i := 1) hP0 hP1 hC0 (by decide) (by rfl) rfl (by kernel_rfl) rfl (by kernel_rfl) (by kernel_rfl) (by kernel_rfl) (fun _ _ _ _ h => h) (by rfl) ?_; apply Exists.intro; refine ⟨fun w1 h1 K hK => ?_, ?_⟩; · (have f0 : ∀ W : Aft w1, W.val.cell? ⟨gb, 0, none⟩ = some (.pointer (some ⟨gv, 0, none⟩)) := fun W => (ZB.below (hP0 _ _ h1 W.below)).cell 0 rfl; go_big_quiet_op; first | exact hK | fail))
    (refine wpAnyP_take0 (i := 2) hP0 hP1 hC0 (by decide) (by rfl) rfl (by kernel_rfl) rfl (by kernel_rfl) (by kernel_rfl) (by kernel_rfl) (fun _ _ _ _ h => h) (by rfl) ?_; apply Exists.intro; refine ⟨fun w1 h1 K hK => ?_, ?_⟩; · (have f0 : ∀ W : Aft w1, gv < W.val.heap.size := fun W => (ZV.below (hP0 _ _ h1 W.below)).lt; go_big_quiet_op; first | exact hK | fail))
    (refine wpAnyP_take0 (i := 3) hP0 hP1 hC0 (by decide) (by rfl) rfl (by kernel_rfl) rfl (by kernel_rfl) (by kernel_rfl) (by kernel_rfl) (fun _ _ _ _ h => h) (by rfl) ?_; apply Exists.intro; refine ⟨fun w1 h1 K hK => ?_, ?_⟩; · ( go_big_quiet_op; first | exact hK | fail))
    (refine wpAnyP_take0 (i := 4) hP0 hP1 hC0 (by decide) (by rfl) rfl (by kernel_rfl) rfl (by kernel_rfl) (by kernel_rfl) (by kernel_rfl) (fun _ _ _ _ h => h) (by rfl) ?_; apply Exists.intro; refine ⟨fun w1 h1 K hK => ?_, ?_⟩; · (have f0 := fun W : Aft w1 => (ZV.below (hP0 _ _ h1 W.below)).cell 1 rfl; go_big_quiet_op; first | exact hK | fail))
    (refine wpAnyP_take0 (i := 5) hP0 hP1 hC0 (by decide) (by rfl) rfl (by kernel_rfl) rfl (by kernel_rfl) (by kernel_rfl) (by kernel_rfl) (fun _ _ _ _ h => h) (by rfl) ?_; apply Exists.intro; refine ⟨fun w1 h1 K hK => ?_, ?_⟩; · ( go_big_quiet_op; first | exact hK | fail))
    (refine wpAnyP_take0 (i := 6) hP0 hP1 hC0 (by decide) (by rfl) rfl (by kernel_rfl) rfl (by kernel_rfl) (by kernel_rfl) (by kernel_rfl) (fun _ _ _ _ h => h) (by rfl) ?_; apply Exists.intro; refine ⟨fun w1 h1 K hK => ?_, ?_⟩; · ( go_big_quiet_op; first | exact hK | fail))
    (refine wpAnyP_take0 (i := 7) hP0 hP1 hC0 (by decide) (by rfl) rfl (by kernel_rfl) rfl (by kernel_rfl) (by kernel_rfl) (by kernel_rfl) (fun _ _ _ _ h => h) (by rfl) ?_; apply Exists.intro; refine ⟨fun w1 h1 K hK => ?_, ?_⟩; · (have f0 : ∀ W : Aft w1, W.val.cell? ⟨gg, 6, none⟩ = some (.int .i64 (g.x : Nat)) := fun W => (ZG.below (hP0 _ _ h1 W.below)).cell 6 rfl; go_big_quiet_op; first | exact hK | fail))
    (refine wpAnyP_take0 (i := 8) hP0 hP1 hC0 (by decide) (by rfl) rfl (by kernel_rfl) rfl (by kernel_rfl) (by kernel_rfl) (by kernel_rfl) (fun _ _ _ _ h => h) (by rfl) ?_; apply Exists.intro; refine ⟨fun w1 h1 K hK => ?_, ?_⟩; · ( go_big_quiet_op; first | exact hK | fail))
    (refine wpAnyP_take0 (i := 9) hP0 hP1 hC0 (by decide) (by rfl) rfl (by kernel_rfl) rfl (by kernel_rfl) (by kernel_rfl) (by kernel_rfl) (fun _ _ _ _ h => h) (by rfl) ?_; apply Exists.intro; refine ⟨fun w1 h1 K hK => ?_, ?_⟩; · ( go_big_quiet_op; first | exact hK | fail))
    (refine wpAnyP_take1 (i := 10) hP0 hP1 hP01 hC0 (by decide) rfl (by kernel_rfl) (by kernel_rfl) (by kernel_rfl) (fun _ _ _ _ h => h) (by rfl) ?_; apply Exists.intro; refine ⟨fun w1 h1 K hK => ?_, ?_⟩; · (have f0 : ∀ W : Aft w1, gv < W.val.heap.size := fun W => hP1 _ _ h1 W.below; go_big_quiet_op; first | exact hK | fail))
    (refine wpAnyP_take1 (i := 11) hP0 hP1 hP01 hC0 (by decide) rfl (by kernel_rfl) (by kernel_rfl) (by kernel_rfl) (fun _ _ _ _ h => h) (by rfl) ?_; apply Exists.intro; refine ⟨fun w1 h1 K hK => ?_, ?_⟩; · ( go_big_quiet_op; first | exact hK | fail))

    (refine wpAnyP_one (i := 12) (by kernel_rfl) rfl (by rfl) (fun wa hwa K hK => ?_))
    refine wp_store_bool (ZV.drew.below hwa) rfl rfl rfl (by simp) (by kernel_rfl) (fun ws zs ho => ?_); dsimp only [Act.put]
    refine hK _ _ (zs.lt) ?_
    refine wpAnyP_done (by kernel_rfl) (fun W6 hW6 => ?_) _
    have hA := hP0 _ _ hC0 hwa
    have hS1 : Same (fun b => b < gb ∧ b ≠ gv) wa W6 := (show Same (fun b => b < gb ∧ b ≠ gv) wa ws from ⟨ho.os, ho.tape, ho.output, Nat.le_of_eq ho.size.symm, fun b _ hp => ho.block b hp.2⟩).trans (Same.of_below hW6 fun _ hk _ => hk)
    have zv6 := zs.below hW6
    have lo6 : Same (fun b => b < gb ∧ b ≠ gv) w W6 := HA.out.low.trans ((Same.of_below hA fun _ hk _ => hk).trans hS1)
    have zb6 : Box gb #[.pointer (some ⟨gv, 0, none⟩)] 51 W6 := (ho.box (ZB.below hA) nb).below hW6
    have k0 := zb6.cell 0 (v := .pointer (some ⟨gv, 0, none⟩)) rfl
    have k1 := zb6.lt
    have k2 := zv6.lt
    have k3 := zv6.frozen 0
    have k4 := zv6.cell 0 (v := .bool so) (by simp)
    clear hP0 hP1 hP01 ltV hC0 hwa hW6 hA hS1 ho zs hK K ZB ZV ZG HA
    go_wp2_with fail
    first | go_end0 | skip
    refine ⟨⟨_, rfl⟩, ?_, ?_⟩
    rw [← HGB.out]
    exact lo6.trans ⟨rfl, rfl, rfl, by simp, fun b _ hp => ((Only.refl gv W6).setCell 0 (.bool true)).block b hp.2⟩
    rw [← HLZ.out]
    have z9 := zv6.set 0 (.bool true)
    first | exact z9 | (rw [← HX0.out]; exact z9) | (rw [Bool.true_or]; exact z9) | (rw [Bool.false_or, ← HX0.out]; exact z9)
  · refine wp_region_phase 12 (Below W5.heap.size W5) (fun W => gv < W.heap.size) (by kernel_rfl) ?_
    (refine wpAnyP_take0 (i := 0) hP0 hP1 hC0 (by decide) (by rfl) rfl (by kernel_rfl) rfl (by kernel_rfl) (by kernel_rfl) (by kernel_rfl) (fun _ _ _ _ h => h) (by rfl) ?_; apply Exists.intro; refine ⟨fun w1 h1 K hK => ?_, ?_⟩; · (have f0 : ∀ W : Aft w1, W.val.cell? ⟨gb, 0, none⟩ = some (.pointer (some ⟨gv, 0, none⟩)) := fun W => (ZB.below (hP0 _ _ h1 W.below)).cell 0 rfl; go_big_quiet_op; first | exact hK | fail))
    (refine wpAnyP_take0 (i := 1) hP0 hP1 hC0 (by decide) (by rfl) rfl (by kernel_rfl) rfl (by kernel_rfl) (by kernel_rfl) (by kernel_rfl) (fun _ _ _ _ h => h) (by rfl) ?_; apply Exists.intro; refine ⟨fun w1 h1 K hK => ?_, ?_⟩; · (have f0 : ∀ W : Aft w1, W.val.cell? ⟨gb, 0, none⟩ = some (.pointer (some ⟨gv, 0, none⟩)) := fun W => (ZB.below (hP0 _ _ h1 W.below)).cell 0 rfl; go_big_quiet_op; first | exact hK | fail))
    (refine wpAnyP_take0 (i := 2) hP0 hP1 hC0 (by decide) (by rfl) rfl (by kernel_rfl) rfl (by kernel_rfl) (by kernel_rfl) (by kernel_rfl) (fun _ _ _ _ h => h) (by rfl) ?_; apply Exists.intro; refine ⟨fun w1 h1 K hK => ?_, ?_⟩; · (have f0 : ∀ W : Aft w1, gv < W.val.heap.size := fun W => (ZV.below (hP0 _ _ h1 W.below)).lt; go_big_quiet_op; first | exact hK | fail))
    (refine wpAnyP_take0 (i := 3) hP0 hP1 hC0 (by decide) (by rfl) rfl (by kernel_rfl) rfl (by kernel_rfl) (by kernel_rfl) (by kernel_rfl) (fun _ _ _ _ h => h) (by rfl) ?_; apply Exists.intro; refine ⟨fun w1 h1 K hK => ?_, ?_⟩; · ( go_big_quiet_op; first | exact hK | fail))
    (refine wpAnyP_take0 (i := 4) hP0 hP1 hC0 (by decide) (by rfl) rfl (by kernel_rfl) rfl (by kernel_rfl) (by kernel_rfl) (by kernel_rfl) (fun _ _ _ _ h => h) (by rfl) ?_; apply Exists.intro; refine ⟨fun w1 h1 K hK => ?_, ?_⟩; · (have f0 := fun W : Aft w1 => (ZV.below (hP0 _ _ h1 W.below)).cell 1 rfl; go_big_quiet_op; first | exact hK | fail))
    (refine wpAnyP_take0 (i := 5) hP0 hP1 hC0 (by decide) (by rfl) rfl (by kernel_rfl) rfl (by kernel_rfl) (by kernel_rfl) (by kernel_rfl) (fun _ _ _ _ h => h) (by rfl) ?_; apply Exists.intro; refine ⟨fun w1 h1 K hK => ?_, ?_⟩; · ( go_big_quiet_op; first | exact hK | fail))
    (refine wpAnyP_skip (i := 6) hP0 hP1 hC0 (by decide) rfl (by kernel_rfl) (by kernel_rfl) (by kernel_rfl) (fun _ _ _ _ h => h) (by rfl) ?_; go_simp)
    (refine wpAnyP_skip (i := 7) hP0 hP1 hC0 (by decide) rfl (by kernel_rfl) (by kernel_rfl) (by kernel_rfl) (fun _ _ _ _ h => h) (by rfl) ?_; go_simp)
    (refine wpAnyP_skip (i := 8) hP0 hP1 hC0 (by decide) rfl (by kernel_rfl) (by kernel_rfl) (by kernel_rfl) (fun _ _ _ _ h => h) (by rfl) ?_; go_simp)
    (refine wpAnyP_take0 (i := 9) hP0 hP1 hC0 (by decide) (by rfl) rfl (by kernel_rfl) rfl (by kernel_rfl) (by kernel_rfl) (by kernel_rfl) (fun _ _ _ _ h => h) (by rfl) ?_; apply Exists.intro; refine ⟨fun w1 h1 K hK => ?_, ?_⟩; · ( go_big_quiet_op; first | exact hK | fail))
    (refine wpAnyP_take1 (i := 10) hP0 hP1 hP01 hC0 (by decide) rfl (by kernel_rfl) (by kernel_rfl) (by kernel_rfl) (fun _ _ _ _ h => h) (by rfl) ?_; apply Exists.intro; refine ⟨fun w1 h1 K hK => ?_, ?_⟩; · (have f0 : ∀ W : Aft w1, gv < W.val.heap.size := fun W => hP1 _ _ h1 W.below; go_big_quiet_op; first | exact hK | fail))
    (refine wpAnyP_take1 (i := 11) hP0 hP1 hP01 hC0 (by decide) rfl (by kernel_rfl) (by kernel_rfl) (by kernel_rfl) (fun _ _ _ _ h => h) (by rfl) ?_; apply Exists.intro; refine ⟨fun w1 h1 K hK => ?_, ?_⟩; · ( go_big_quiet_op; first | exact hK | fail))

    (refine wpAnyP_one (i := 12) (by kernel_rfl) rfl (by rfl) (fun wa hwa K hK => ?_))
    refine wp_store_bool (ZV.drew.below hwa) rfl rfl rfl (by simp) (by kernel_rfl) (fun ws zs ho => ?_); dsimp only [Act.put]
    refine hK _ _ (zs.lt) ?_
    refine wpAnyP_done (by kernel_rfl) (fun W6 hW6 => ?_) _
    have hA := hP0 _ _ hC0 hwa
    have hS1 : Same (fun b => b < gb ∧ b ≠ gv) wa W6 := (show Same (fun b => b < gb ∧ b ≠ gv) wa ws from ⟨ho.os, ho.tape, ho.output, Nat.le_of_eq ho.size.symm, fun b _ hp => ho.block b hp.2⟩).trans (Same.of_below hW6 fun _ hk _ => hk)
    have zv6 := zs.below hW6
    have lo6 : Same (fun b => b < gb ∧ b ≠ gv) w W6 := HA.out.low.trans ((Same.of_below hA fun _ hk _ => hk).trans hS1)
    have zb6 : Box gb #[.pointer (some ⟨gv, 0, none⟩)] 51 W6 := (ho.box (ZB.below hA) nb).below hW6
    have k0 := zb6.cell 0 (v := .pointer (some ⟨gv, 0, none⟩)) rfl
    have k1 := zb6.lt
    have k2 := zv6.lt
    have k3 := zv6.frozen 0
    have k4 := zv6.cell 0 (v := .bool so) (by simp)
    clear hP0 hP1 hP01 ltV hC0 hwa hW6 hA hS1 ho zs hK K ZB ZV ZG HA
    go_wp2_with fail
    first | go_end0 | skip
    refine ⟨⟨_, rfl⟩, ?_, ?_⟩
    rw [← HGB.out]
    exact lo6.trans ⟨rfl, rfl, rfl, by simp, fun b _ hp => ((Only.refl gv W6).setCell 0 (.bool true)).block b hp.2⟩
    rw [← HLZ.out]
    have z9 := zv6.set 0 (.bool true)
    first | exact z9 | (rw [← HX0.out]; exact z9) | (rw [Bool.true_or]; exact z9) | (rw [Bool.false_or, ← HX0.out]; exact z9)
end Go.Proofs.YtmeeknmjhlfnaaaDoor
