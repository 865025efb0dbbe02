/- Pair returns the cheapest pair of meters. -/
import Derived.Test.YtckagcbjcpfjpaaChoose2
import Derived.StillTailTactics
namespace Go.Proofs.Ytckagcbjcpfjpaa
open Go.RowKit
/-- the cheapest so far -/
structure Cheap where
  i : Nat
  k : Nat
  price : Int
  is : Bool
def Cheap.add (c : Cheap) (i k : Nat) (price : Int) : Cheap := if !c.is || decide (price < c.price) then ⟨i, k, price, true⟩ else c
def CheapAt (cb : Nat) (c : Cheap) (w : World) : Prop :=
  w.cell? ⟨cb, 0, none⟩ = some (.int .i64 (c.i : Nat)) ∧ w.cell? ⟨cb, 1, none⟩ = some (.int .i64 (c.k : Nat)) ∧ w.cell? ⟨cb, 2, none⟩ = some (.int .i64 c.price) ∧ w.cell? ⟨cb, 3, none⟩ = some (.bool c.is) ∧
  w.frozen? ⟨cb, 0, none⟩ = false ∧ w.frozen? ⟨cb, 1, none⟩ = false ∧ w.frozen? ⟨cb, 2, none⟩ = false ∧ w.frozen? ⟨cb, 3, none⟩ = false
set_option maxHeartbeats 1000000 in
theorem add_any (c : Cheap) (i k : Nat) (price : Int) (cb : Nat) (w : World) (hb : cb < w.heap.size) (hc : CheapAt cb c w) :
    Calls Try.prog 42 #[.pointer (some ⟨cb, 0, none⟩), .agg #[.int .i64 (i : Nat), .int .i64 (k : Nat)], .int .i64 price] w fun e w' => e = .returned (.tuple #[]) ∧ CheapAt cb (c.add i k price) w' ∧ Same (· ≠ cb) w w' := by
  obtain ⟨c0, c1, c2, c3, c4, c5, c6, c7⟩ := hc
  obtain ⟨ci, ck, cp, is⟩ := c
  dsimp only at c0 c1 c2 c3
  have hne : w.heap.size ≠ cb := by omega
  by_cases his : is = true
  · by_cases hp : price < cp
    · have HI := Lib.hid his
      have HP := Lib.hid hp
      go_enter Try.func42, Try.ntmps42
      go_wp2
      go_end0
      refine ⟨rfl, ?_, ((((Same.refl _ _).setCell (fun h => absurd rfl h) _).setCell (fun h => absurd rfl h) _).setCell (fun h => absurd rfl h) _).setCell (fun h => absurd rfl h) _ |>.alloc _⟩
      rw [Cheap.add, if_pos (by simp [HP.out])]
      simp [CheapAt, go_sem, hb, c0, c1, c2, c3, c4, c5, c6, c7]
    · have HI := Lib.hid his
      have HP := Lib.hid hp
      go_enter Try.func42, Try.ntmps42
      go_wp2
      go_end0
      refine ⟨rfl, ?_, (Same.refl _ _).alloc _⟩
      rw [Cheap.add, if_neg (by have := HP.out; simp; omega)]
      simp [CheapAt, go_sem, hb, c0, c1, c2, c3, c4, c5, c6, c7, his]
  · replace his : is = false := by simpa using his
    have HI := Lib.hid his
    go_enter Try.func42, Try.ntmps42
    go_wp2
    go_end0
    refine ⟨rfl, ?_, ((((Same.refl _ _).setCell (fun h => absurd rfl h) _).setCell (fun h => absurd rfl h) _).setCell (fun h => absurd rfl h) _).setCell (fun h => absurd rfl h) _ |>.alloc _⟩
    rw [Cheap.add, if_pos (by simp [his])]
    simp [CheapAt, go_sem, hb, c0, c1, c2, c3, c4, c5, c6, c7]
def House.pairB (h : House) (t : Nat → Meter) (i k : Nat) : Bool := h.fullB (t k) && decide ((t i).start ≤ h.drip) && decide ((t k).start ≤ (t i).full)
def House.pairStep (h : House) (t : Nat → Meter) (i k : Nat) (c : Cheap) : Cheap := if h.pairB t i k then c.add i k ((t i).price + (t k).price) else c
/-- the second meters behind i, m of them -/
def House.pairIn (h : House) (t : Nat → Meter) (i : Nat) (c : Cheap) : Nat → Cheap
  | 0 => c
  | m + 1 => h.pairStep t i (i + 1 + m) (h.pairIn t i c m)
def House.pairOut (h : House) (t : Nat → Meter) (n : Nat) : Nat → Cheap
  | 0 => ⟨0, 0, 0, false⟩
  | j + 1 => h.pairIn t j (h.pairOut t n j) (n - (j + 1))
def House.pairR (h : House) (n : Nat) (t : Nat → Meter) : Nat × Nat × Int × Nat :=
  if errB h n t = 0 then (if (h.pairOut t n n).is then ((h.pairOut t n n).i, (h.pairOut t n n).k, (h.pairOut t n n).price, 0) else (0, 0, 0, 4)) else (0, 0, 0, errB h n t)
theorem err_zero {h : House} {n : Nat} {t : Nat → Meter} (he : errB h n t = 0) : listB n t = true ∧ h.valid = true := by
  unfold errB at he
  split at he
  · split at he
    · exact ⟨by assumption, by assumption⟩
    · cases he
  · cases he
theorem results_tmp4 {P : Program} {fn : Func} {t u v x : Tmp} (h : fn.results = #[.tmp t, .tmp u, .tmp v, .tmp x]) (tmps : Array Value) (w : World) :
    (results fn tmps).run P w = .ok (.tuple #[tmps.getD t undef, tmps.getD u undef, tmps.getD v undef, tmps.getD x undef]) w := by simp [results, h]
theorem listB_price {n : Nat} {t : Nat → Meter} (hl : listB n t = true) (i : Nat) (hi : i < n) : 0 ≤ (t i).price ∧ (t i).price ≤ 1000000 := by
  have hm := (listB_fair hl i hi).1
  simp only [Meter.valid, withinB, Bool.and_eq_true, decide_eq_true_eq] at hm
  omega
set_option maxRecDepth 100000 in
set_option maxHeartbeats 1000000 in
theorem Pair_any (h : House) (ta ra oa : Option Addr) (tc rc n cap : Nat) (t : Nat → Meter) (w : World) (g1 : h.nt ≤ 1000000) (g2 : h.nr ≤ 1000000) (g3 : n ≤ 1000000) (hT : TapsAt w ta h.nt h.t) (hR : RulesAt w ra h.nr h.r) (hM : MetersAt w oa n t) :
    Calls Try.prog 20 #[houseV h ta ra tc rc, .slice oa n cap] w fun e w' => e = .returned (.tuple #[.int .i64 ((h.pairR n t).1 : Nat), .int .i64 ((h.pairR n t).2.1 : Nat), .int .i64 (h.pairR n t).2.2.1, .int .i64 ((h.pairR n t).2.2.2 : Nat)]) ∧ Below w.heap.size w w' := by
  have HT := Lib.hid hT
  have HR := Lib.hid hR
  have HM := Lib.hid hM
  clear hT hR hM
  go_enter Try.func20, Try.ntmps20
  go_wp2_with fail
  refine (errorOf_any h ta ra oa tc rc n cap t _ g1 g2 g3 (HT.out.mono (below_alloc1 _ _)) (HR.out.mono (below_alloc1 _ _)) (HM.out.mono (below_alloc1 _ _))).mono ?_
  rintro e w1 ⟨rfl, hb1⟩
  have hs1 := hb1.size
  simp only [World.size_alloc] at hs1
  have q0 : w1.cell? ⟨w.heap.size, 0, none⟩ = some (.int .i64 h.head) := (hb1.cell (p := ⟨w.heap.size, 0, none⟩) (by simp)).trans (by simp [go_sem])
  have q1 : w1.cell? ⟨w.heap.size, 1, none⟩ = some (.int .i64 h.drip) := (hb1.cell (p := ⟨w.heap.size, 1, none⟩) (by simp)).trans (by simp [go_sem])
  have q2 : w1.cell? ⟨w.heap.size, 2, none⟩ = some (.slice ta h.nt tc) := (hb1.cell (p := ⟨w.heap.size, 2, none⟩) (by simp)).trans (by simp [go_sem])
  have q3 : w1.cell? ⟨w.heap.size, 3, none⟩ = some (.slice ra h.nr rc) := (hb1.cell (p := ⟨w.heap.size, 3, none⟩) (by simp)).trans (by simp [go_sem])
  have hb2 := (below_alloc1 w (.cells #[.int .i64 h.head, .int .i64 h.drip, .slice ta h.nt tc, .slice ra h.nr rc] 25)).trans (hb1.mono (by simp))
  clear hb1
  by_cases he : errB h n t = 0
  · have HE := Lib.hid he
    have HL := Lib.hid (err_zero he)
    have hb : (((errB h n t : Nat) : Int) != 0) = false := by simp [he]
    clear he
    have hmm := @run_makeMap Try.prog
    obtain ⟨f, hf⟩ : ∃ f : Nat → Value, f = fun i => .bool (h.fullB (t i)) := ⟨_, rfl⟩
    have Hf := Lib.hid hf
    clear hf
    go_wp2
    have hm0 : (w1.alloc (.map #[] 0)).heap[w1.heap.size]? = some (drawsO f 0) := World.alloc_heap_new w1 _
    have hsz0 : (w1.alloc (.map #[] 0)).heap.size = w1.heap.size + 1 := by simp
    have q0' := (Same.refl (fun _ => True) w1).alloc (.map #[] 0) |>.cell_some q0 trivial
    have q1' := (Same.refl (fun _ => True) w1).alloc (.map #[] 0) |>.cell_some q1 trivial
    have q2' := (Same.refl (fun _ => True) w1).alloc (.map #[] 0) |>.cell_some q2 trivial
    have q3' := (Same.refl (fun _ => True) w1).alloc (.map #[] 0) |>.cell_some q3 trivial
    have hb3 : Below w.heap.size w (w1.alloc (.map #[] 0)) := hb2.alloc (by omega) _
    obtain ⟨Wm, hWm⟩ : ∃ X, X = w1.alloc (.map #[] 0) := ⟨_, rfl⟩
    rw [← hWm] at hm0 hsz0 q0' q1' q2' q3' hb3 ⊢
    clear hWm q0 q1 q2 q3
    go_loopw [10, 11, 25] (fun v10 v11 v25 wr => ∃ k : Nat, k ≤ n ∧ v25 = .int .i64 k ∧ Same (· ≠ w1.heap.size) Wm wr ∧ wr.heap[w1.heap.size]? = some (drawsO f k)) (fun _ _ i _ => n - (intOf i).toNat)
    case atStart => exact ⟨0, Nat.zero_le _, rfl, Same.refl _ _, hm0⟩
    case round =>
      obtain ⟨k, hk, rfl, hsm, hmk⟩ := hrel
      have hsr := hsm.size
      have hbz : Below w.heap.size w wr := hb3.trans (hsm.below hb3.size (fun k hk => by omega))
      by_cases hlt : k < n
      · obtain ⟨b, off, rfl, hlt0, m0, m1, m2, m3⟩ := (HM.out.mono hbz) k hlt
        have r0 := hsm.cell_some q0' (by dsimp only; omega)
        have r1 := hsm.cell_some q1' (by dsimp only; omega)
        have r2 := hsm.cell_some q2' (by dsimp only; omega)
        have r3 := hsm.cell_some q3' (by dsimp only; omega)
        have hlt9 : w.heap.size < wr.heap.size := by omega
        go_wp2_with fail
        have hba := hbz.alloc (by omega) (.cells #[.int .i64 (t k).start, .int .i64 (t k).full, .int .i64 (t k).loss, .int .i64 (t k).price] 27)
        refine (starved_any h (t k) HL.out.2 (listB_fair HL.out.1 k hlt).2 ta ra tc rc _ (HT.out.mono hba) (HR.out.mono hba)).mono ?_
        rintro e w3 ⟨rfl, hd1⟩
        have hs3 := hd1.size
        simp only [World.size_alloc] at hs3
        have hm3 : w3.heap[w1.heap.size]? = some (drawsO f k) := (hd1.block _ (by simp; omega)).trans ((Below.heap_alloc _ _ _ (by omega)).trans hmk)
        have hs4 : Same (· ≠ w1.heap.size) Wm w3 := (hsm.alloc _).trans (Same.of_below hd1 fun k hk _ => hk)
        have hs5 : Same (· ≠ w1.heap.size) Wm (w3.putObj w1.heap.size (drawsO f (k + 1))) := hs4.putObj (fun h => absurd rfl h) _
        have hm5 : (w3.putObj w1.heap.size (drawsO f (k + 1))).heap[w1.heap.size]? = some (drawsO f (k + 1)) := World.putObj_heap_same (by omega)
        clear hd1 r0 r1 r2 r3 m0 m1 m2 m3 q0' q1' q2' q3' hba
        have hfull : h.fullB (t k) = wantB (h.starved (t k)) := rfl
        have hfk : f k = .bool (h.fullB (t k)) := by rw [Hf.out]
        obtain ⟨⟨a, b⟩, hab⟩ : ∃ ab, ab = h.starved (t k) := ⟨_, rfl⟩
        rw [← hab] at hfull ⊢
        clear hab
        dsimp only
        by_cases ha : a = 0
        · subst ha
          cases b
          · have hup := run_update_draws (P := Try.prog) Try.underlying82 Try.underlying3 hm3 (.bool true) (by rw [hfk, hfull]; rfl)
            clear hfull hfk hm3 hs4
            go_wp2
            go_roundw
            case rel => exact ⟨k + 1, by omega, by go_num, hs5, hm5⟩
            case measure => simp [intOf]; omega
          · have hup := run_update_draws (P := Try.prog) Try.underlying82 Try.underlying3 hm3 (.bool false) (by rw [hfk, hfull]; rfl)
            clear hfull hfk hm3 hs4
            go_wp2
            go_roundw
            case rel => exact ⟨k + 1, by omega, by go_num, hs5, hm5⟩
            case measure => simp [intOf]; omega
        · have hup := run_update_draws (P := Try.prog) Try.underlying82 Try.underlying3 hm3 (.bool false) (by rw [hfk, hfull]; simp [wantB, ha])
          clear hfull hfk hm3 hs4
          go_wp2
          go_roundw
          case rel => exact ⟨k + 1, by omega, by go_num, hs5, hm5⟩
          case measure => simp [intOf]; omega
      · have hkn : k = n := by omega
        subst hkn
        have r1 := hsm.cell_some q1' (by dsimp only; omega)
        go_wp2
        have hm2 : (wr.alloc (.cells #[.int .i64 0, .int .i64 0, .int .i64 0, .bool false] 85)).heap[w1.heap.size]? = some (drawsO f k) := (Below.heap_alloc _ _ _ (by omega)).trans hmk
        have r2 := (Same.refl (fun _ => True) wr).alloc (.cells #[.int .i64 0, .int .i64 0, .int .i64 0, .bool false] 85) |>.cell_some r1 trivial
        have hcb : CheapAt wr.heap.size ⟨0, 0, 0, false⟩ (wr.alloc (.cells #[.int .i64 0, .int .i64 0, .int .i64 0, .bool false] 85)) := by simp [CheapAt, go_sem]
        have hbz2 := hbz.alloc (by omega) (.cells #[.int .i64 0, .int .i64 0, .int .i64 0, .bool false] 85)
        have hsz2 : (wr.alloc (.cells #[.int .i64 0, .int .i64 0, .int .i64 0, .bool false] 85)).heap.size = wr.heap.size + 1 := by simp
        obtain ⟨W2, hW2⟩ : ∃ X, X = wr.alloc (.cells #[.int .i64 0, .int .i64 0, .int .i64 0, .bool false] 85) := ⟨_, rfl⟩
        rw [← hW2] at hm2 r2 hcb hbz2 hsz2 ⊢
        clear hW2 r1 hmk q0' q1' q2' q3' hm0 hmm
        obtain ⟨cb, hcbe⟩ : ∃ cb, cb = wr.heap.size := ⟨_, rfl⟩
        rw [← hcbe] at hcb hsz2 ⊢
        have hcb9 : w1.heap.size + 1 ≤ cb := by omega
        clear hcbe hsm hbz hsr
        go_loopw [40] (fun v40 wo => ∃ j : Nat, j ≤ k ∧ v40 = .int .i64 j ∧ Same (· ≠ cb) W2 wo ∧ CheapAt cb (h.pairOut t k j) wo) (fun i _ => k - (intOf i).toNat)
        case atStart => exact ⟨0, Nat.zero_le _, rfl, Same.refl _ _, hcb⟩
        case round =>
          obtain ⟨j, hj, rfl, hso, hco⟩ := hrel
          have hsro := hso.size
          have hlt8 : w1.heap.size < W2.heap.size := by omega
          have hbo : Below w.heap.size w wr := hbz2.trans (hso.below hbz2.size (fun k hk => by omega))
          by_cases hlt : j < k
          · obtain ⟨b, off, rfl, hlt0, m0, m1, m2, m3⟩ := (HM.out.mono hbo) j hlt
            go_wp2
            have e0 : (wr.alloc (.cells #[.int .i64 (t j).start, .int .i64 (t j).full, .int .i64 (t j).loss, .int .i64 (t j).price] 27)).cell? ⟨wr.heap.size, 0, none⟩ = some (.int .i64 (t j).start) := by simp [go_sem]
            have e1 : (wr.alloc (.cells #[.int .i64 (t j).start, .int .i64 (t j).full, .int .i64 (t j).loss, .int .i64 (t j).price] 27)).cell? ⟨wr.heap.size, 1, none⟩ = some (.int .i64 (t j).full) := by simp [go_sem]
            have e2 : (wr.alloc (.cells #[.int .i64 (t j).start, .int .i64 (t j).full, .int .i64 (t j).loss, .int .i64 (t j).price] 27)).cell? ⟨wr.heap.size, 3, none⟩ = some (.int .i64 (t j).price) := by simp [go_sem]
            have hsi := hso.alloc (.cells #[.int .i64 (t j).start, .int .i64 (t j).full, .int .i64 (t j).loss, .int .i64 (t j).price] 27)
            have hci : CheapAt cb (h.pairOut t k j) (wr.alloc (.cells #[.int .i64 (t j).start, .int .i64 (t j).full, .int .i64 (t j).loss, .int .i64 (t j).price] 27)) := by
              obtain ⟨z0, z1, z2, z3, z4, z5, z6, z7⟩ := hco
              have hS : Same (fun _ => True) wr (wr.alloc (.cells #[.int .i64 (t j).start, .int .i64 (t j).full, .int .i64 (t j).loss, .int .i64 (t j).price] 27)) := (Same.refl _ _).alloc _
              exact ⟨hS.cell_some z0 trivial, hS.cell_some z1 trivial, hS.cell_some z2 trivial, hS.cell_some z3 trivial, hS.frozen_some z0 z4 trivial, hS.frozen_some z1 z5 trivial, hS.frozen_some z2 z6 trivial, hS.frozen_some z3 z7 trivial⟩
            have hszi : (wr.alloc (.cells #[.int .i64 (t j).start, .int .i64 (t j).full, .int .i64 (t j).loss, .int .i64 (t j).price] 27)).heap.size = wr.heap.size + 1 := by simp
            obtain ⟨Wi, hWi⟩ : ∃ X, X = wr.alloc (.cells #[.int .i64 (t j).start, .int .i64 (t j).full, .int .i64 (t j).loss, .int .i64 (t j).price] 27) := ⟨_, rfl⟩
            rw [← hWi] at e0 e1 e2 hsi hci hszi ⊢
            clear hWi m0 m1 m2 m3 hco
            obtain ⟨bs, hbs⟩ : ∃ bs, bs = wr.heap.size := ⟨_, rfl⟩
            rw [← hbs] at e0 e1 e2 hszi ⊢
            have hbs9 : cb < bs := by omega
            clear hbs hso hbo hsro
            go_loopw [15] (fun v15 wn => ∃ m : Nat, j + 1 + m ≤ k ∧ v15 = .int .i64 ((j + 1 + m : Nat) : Int) ∧ Same (· ≠ cb) Wi wn ∧ CheapAt cb (h.pairIn t j (h.pairOut t k j) m) wn) (fun i _ => k - (intOf i).toNat)
            case atStart => exact ⟨0, by omega, by go_num, Same.refl _ _, hci⟩
            case round =>
              obtain ⟨m, hmm1, rfl, hsn, hcn⟩ := hrel
              have hsW := hsi.trans hsn
              have hszn := hsW.size
              have hbn : Below w.heap.size w wr := hbz2.trans (hsW.below hbz2.size (fun k hk => by omega))
              obtain ⟨i, hi⟩ : ∃ i, i = j + 1 + m := ⟨_, rfl⟩
              rw [← hi] at hmm1 ⊢
              by_cases hltm : i < k
              · obtain ⟨b', off', hbo', hlt', n0, n1, n2, n3⟩ := (HM.out.mono hbn) i hltm
                cases hbo'
                have d1 := hsW.cell_some r2 (by dsimp only; omega)
                have f0 := hsn.cell_some e0 (by dsimp only; omega)
                have f1 := hsn.cell_some e1 (by dsimp only; omega)
                have f2 := hsn.cell_some e2 (by dsimp only; omega)
                have hmn : wr.heap[w1.heap.size]? = some (drawsO f k) := (hsW.block _ hlt8 (by omega)).trans hm2
                have hlk := run_lookup_draws (P := Try.prog) Try.underlying82 Try.underlying3 hmn hltm
                have hlkN : ∀ q : Nat, (Instr.lookup 82 (.map (some w1.heap.size)) (.int .i64 (i : Int)) false).run Try.prog (wr.drewN q) = .ok (f i) (wr.drewN q) := fun q => run_lookup_draws (P := Try.prog) (w := wr.drewN q) Try.underlying82 Try.underlying3 hmn hltm
                have hfi : f i = .bool (h.fullB (t i)) := by rw [Hf.out]
                have HI := Lib.hid hi
                clear hi hmn hsi hci
                by_cases hfu : h.fullB (t i) = true
                · rw [hfi, hfu] at hlk
                  have hlkN' : ∀ q : Nat, (Instr.lookup 82 (.map (some w1.heap.size)) (.int .i64 (i : Int)) false).run Try.prog (wr.drewN q) = .ok (.bool true) (wr.drewN q) := fun q => by rw [hlkN, hfi, hfu]
                  clear hlkN
                  have HFU := Lib.hid hfu
                  clear hfu hfi
                  by_cases hst : (t j).start ≤ h.drip
                  · by_cases hfl : (t i).start ≤ (t j).full
                    · have hpi := listB_price HL.out.1 i hltm
                      have hpj := listB_price HL.out.1 j hlt
                      have HB := Lib.hid (show h.pairB t j i = true by simp [House.pairB, HFU.out, hst, hfl])
                      go_wp2
                      go_quiet (fail)
                      go_wp2
                      have f2' : (wr.drewN nq).cell? ⟨bs, 3, none⟩ = some (.int .i64 (t j).price) := f2
                      have n3' : (wr.drewN nq).cell? ⟨b, off + i * 4 + 3, none⟩ = some (.int .i64 (t i).price) := n3
                      have hcn' : CheapAt cb (h.pairIn t j (h.pairOut t k j) m) (wr.drewN nq) := hcn
                      have hsn' := hsn.drewN nq
                      have hsz' : cb < (wr.drewN nq).heap.size := by show cb < wr.heap.size; omega
                      obtain ⟨wq, hwq⟩ : ∃ X, X = wr.drewN nq := ⟨_, rfl⟩
                      rw [← hwq] at f2' n3' hcn' hsn' hsz' ⊢
                      clear hwq f0 f1 f2 n0 n1 n2 n3 hlk hlkN' d1
                      go_still_tail 11, (by kernel_rfl)
                      change wpList _ _ _ _ _ wq.drew
                      go_wp2_with fail
                      refine (add_any (h.pairIn t j (h.pairOut t k j) m) j i ((t j).price + (t i).price) cb wq.drew hsz' hcn').mono ?_
                      rintro e w5 ⟨rfl, hc5, hs5⟩
                      go_wp2
                      go_roundw
                      case rel => exact ⟨m + 1, by have := HI.out; omega, congrArg (Value.int .i64) (by have := HI.out; omega), hsn'.drew.trans hs5, by
                        have e := HI.out
                        simp only [House.pairIn, House.pairStep]
                        rw [← e, if_pos HB.out]; exact hc5⟩
                      case measure => simp [intOf]; omega
                    · have HB := Lib.hid (show h.pairB t j i = false by simp [House.pairB]; intro _ _; omega)
                      have hd : decide ((t i).start ≤ (t j).full) = false := by simpa using hfl
                      go_wp2
                      go_quiet (fail)
                      go_wp2
                      go_roundw
                      case rel => exact ⟨m + 1, by have := HI.out; omega, congrArg (Value.int .i64) (by have := HI.out; omega), hsn.drewN nq, by
                        have e := HI.out
                        simp only [House.pairIn, House.pairStep]
                        rw [← e, if_neg (by rw [HB.out]; simp)]; exact hcn⟩
                      case measure => simp [intOf]; omega
                  · have HB := Lib.hid (show h.pairB t j i = false by simp [House.pairB]; intro _ h; omega)
                    have hd : decide ((t j).start ≤ h.drip) = false := by simpa using hst
                    go_wp2
                    go_quiet (fail)
                    go_wp2
                    go_roundw
                    case rel => exact ⟨m + 1, by have := HI.out; omega, congrArg (Value.int .i64) (by have := HI.out; omega), hsn.drewN nq, by
                      have e := HI.out
                      simp only [House.pairIn, House.pairStep]
                      rw [← e, if_neg (by rw [HB.out]; simp)]; exact hcn⟩
                    case measure => simp [intOf]; omega
                · replace hfu : h.fullB (t i) = false := by simpa using hfu
                  rw [hfi, hfu] at hlk
                  have hlkN' : ∀ q : Nat, (Instr.lookup 82 (.map (some w1.heap.size)) (.int .i64 (i : Int)) false).run Try.prog (wr.drewN q) = .ok (.bool false) (wr.drewN q) := fun q => by rw [hlkN, hfi, hfu]
                  clear hlkN
                  have HB := Lib.hid (show h.pairB t j i = false by simp [House.pairB, hfu])
                  clear hfu hfi
                  go_wp2
                  go_quiet (fail)
                  go_wp2
                  go_roundw
                  case rel => exact ⟨m + 1, by have := HI.out; omega, congrArg (Value.int .i64) (by have := HI.out; omega), hsn.drewN nq, by
                    have e := HI.out
                    simp only [House.pairIn, House.pairStep]
                    rw [← e, if_neg (by rw [HB.out]; simp)]; exact hcn⟩
                  case measure => simp [intOf]; omega
              · go_wp2
                exact ⟨⟨j + 1, by omega, by go_num, hsW, by
                  have e : k - (j + 1) = m := by omega
                  simp only [House.pairOut]
                  rw [e]; exact hcn⟩, by simp [intOf]; omega⟩
          · have hjk : j = k := by omega
            rw [hjk] at hco
            obtain ⟨z0, z1, z2, z3, z4, z5, z6, z7⟩ := hco
            obtain ⟨⟨ci, ck, cp, is⟩, hC⟩ : ∃ C, C = h.pairOut t k k := ⟨_, rfl⟩
            rw [← hC] at z0 z1 z2 z3
            dsimp only at z0 z1 z2 z3
            have HC := Lib.hid hC
            clear hC hjk
            cases is
            · go_wp2
              refine bodyPost_ret (results_tmp4 rfl _ _) rfl ⟨?_, hbo⟩
              simp [House.pairR, HE.out, ← HC.out]
            · go_wp2
              go_region
              go_wp2
              refine bodyPost_ret (results_tmp4 rfl _ _) rfl ⟨?_, hbo.drew⟩
              simp [House.pairR, HE.out, ← HC.out]
  · have HE := Lib.hid he
    have hb : (((errB h n t : Nat) : Int) != 0) = true := by simpa using he
    clear he
    go_wp2
    refine bodyPost_ret (results_tmp4 rfl _ _) rfl ⟨?_, hb2⟩
    have := HE.out
    simp [House.pairR, this]
end Go.Proofs.Ytckagcbjcpfjpaa
