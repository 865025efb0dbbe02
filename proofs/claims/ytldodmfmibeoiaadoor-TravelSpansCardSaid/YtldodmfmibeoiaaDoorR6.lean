/- Travel: the document's span, Fault and Error. -/
import Derived.Test.YtldodmfmibeoiaaDoorR5
namespace Go.Proofs.YtldodmfmibeoiaaDoor
open Go.RowKit
/-- what the document tells of a number -/
def Rnd.spanD (r : Rnd) (off : Int) (a : Nat) (turn : Bool) : Tell := if okT (r.D off) = false then ⟨0, 0, 6⟩ else tellD (r.D off) (upI r.nb.toNat a) turn
/-- the span out of both numbers -/
def spanT (h l : Int) (turn : Bool) : Tell := if h = 1073741824 ∨ l = 1073741824 then ⟨0, 0, 4⟩ else if turn then ⟨-h, l, 0⟩ else ⟨-l, h, 0⟩
theorem Rnd.abv_facts {r : Rnd} (hv : r.valid = true) {off : Int} (hok : okT (r.D off) = true) {a b : Nat} (ha : a < 1 + r.nb.toNat + r.nm.toNat) (hb : b < 1 + r.nb.toNat + r.nm.toNat) :
    (r.D off (upI r.nb.toNat a) (upI r.nb.toNat b) < 1099511627776 ∧ r.abv off a b = r.D off (upI r.nb.toNat a) (upI r.nb.toNat b) ∧ -900000000 ≤ r.abv off a b ∧ r.abv off a b ≤ 900000000) ∨ (¬ r.D off (upI r.nb.toNat a) (upI r.nb.toNat b) < 1099511627776 ∧ r.abv off a b = 1073741824) := by
  have hh := Rnd.valid_head hv
  have hnb : r.nb.toNat ≤ 6 := by omega
  have hnm : r.nm.toNat ≤ 6 := by omega
  have ua := up_lt (nb := r.nb.toNat) (nm := r.nm.toNat) hnb hnm ha
  have ub := up_lt (nb := r.nb.toNat) (nm := r.nm.toNat) hnb hnm hb
  have hbd := ((Rnd.D_cl hv hok).bd _ _ ua ub).2
  unfold Rnd.abv
  generalize r.D off (upI r.nb.toNat a) (upI r.nb.toNat b) = d at *
  by_cases hf : d < 1099511627776
  · rw [if_pos hf]
    have := hbd hf
    exact .inl ⟨hf, rfl, by omega, by omega⟩
  · rw [if_neg hf]
    exact .inr ⟨hf, rfl⟩
theorem Rnd.spanD_is {r : Rnd} (hv : r.valid = true) {off : Int} (hok : okT (r.D off) = true) {a : Nat} (ha : a < 1 + r.nb.toNat + r.nm.toNat) (turn : Bool) : r.spanD off a turn = spanT (r.abv off a 0) (r.abv off 0 a) turn := by
  have h1 := Rnd.abv_facts hv hok ha (b := 0) (by omega)
  have h2 := Rnd.abv_facts hv hok (a := 0) (by omega) ha
  have e0 : upI r.nb.toNat 0 = 0 := if_pos (Nat.zero_le _)
  rw [e0] at h1 h2
  unfold Rnd.spanD spanT tellD
  rw [hok, if_neg (by simp)]
  rcases h1 with ⟨f1, e1, p1, p2⟩ | ⟨f1, e1⟩
  · rcases h2 with ⟨f2, e2, p3, p4⟩ | ⟨f2, e2⟩
    · have hn : ¬ (r.abv off a 0 = 1073741824 ∨ r.abv off 0 a = 1073741824) := by omega
      rw [if_pos ⟨f1, f2⟩, if_neg hn, e1, e2]
    · rw [if_neg (fun h => f2 h.2), if_pos (.inr e2)]
  · rw [if_neg (fun h => f1 h.1), if_pos (.inl e1)]
theorem spanT_none {h l : Int} {turn : Bool} (hn : h = 1073741824 ∨ l = 1073741824) : spanT h l turn = ⟨0, 0, 4⟩ := if_pos hn
theorem spanT_turn {h l : Int} (hn : ¬ (h = 1073741824 ∨ l = 1073741824)) : spanT h l true = ⟨-h, l, 0⟩ := by unfold spanT; rw [if_neg hn]; rfl
theorem spanT_plain {h l : Int} (hn : ¬ (h = 1073741824 ∨ l = 1073741824)) : spanT h l false = ⟨-l, h, 0⟩ := by unfold spanT; rw [if_neg hn]; rfl
set_option maxRecDepth 100000 in
set_option maxHeartbeats 8000000 in
theorem dspan_any (r : Rnd) (oa : Option Addr) (ca : Nat) (off : Int) (a : Nat) (turn : Bool) (w : World) (hv : r.valid = true) (ha : a < 1 + r.nb.toNat + r.nm.toNat) (hA : TrpsAt w oa r.n r.t) :
    Calls Tryd.prog 42 #[r.val oa ca, .int .i64 off, .int .i64 (a : Nat), .bool turn] w fun e w' => e = .returned (r.spanD off a turn).val ∧ Below w.heap.size w w' := by
  have HA := Lib.hid hA
  have HV := Lib.hid hv
  clear hA hv
  go_enter Tryd.func42, Tryd.ntmps42
  go_wp2_with fail
  have hb0 := (below_alloc1 w (.cells #[.int .i64 r.nb, .int .i64 r.nm, .int .i64 r.most, .slice oa r.n ca] 24)).alloc (by simp) (.cells #[.int .i64 0, .int .i64 0] 33)
  have hB := (Box.new (g := w.heap.size) #[.int .i64 r.nb, .int .i64 r.nm, .int .i64 r.most, .slice oa r.n ca] 24 w rfl).old (.cells #[.int .i64 0, .int .i64 0] 33)
  have hS := Box.new (g := w.heap.size + 1) #[.int .i64 0, .int .i64 0] 33 (w.alloc (.cells #[.int .i64 r.nb, .int .i64 r.nm, .int .i64 r.most, .slice oa r.n ca] 24)) (by simp)
  obtain ⟨W, hW⟩ : ∃ X, X = (w.alloc (.cells #[.int .i64 r.nb, .int .i64 r.nm, .int .i64 r.most, .slice oa r.n ca] 24)).alloc (.cells #[.int .i64 0, .int .i64 0] 33) := ⟨_, rfl⟩
  rw [← hW] at hb0 hB hS ⊢
  clear hW
  obtain ⟨gs, hgs⟩ : ∃ G, G = w.heap.size + 1 := ⟨_, rfl⟩
  rw [← hgs] at hS ⊢
  obtain ⟨gr, hgr⟩ : ∃ G, G = w.heap.size := ⟨_, rfl⟩
  rw [← hgr] at hB ⊢
  have HGS := Lib.hid (show w.heap.size ≤ gs by omega)
  clear hgr hgs
  have HVAL := Lib.hid (fitsW_any r oa ca off oa r.n ca r.t W HV.out (HA.out.mono hb0))
  refine HVAL.out.mono ?_
  rintro e w1 ⟨rfl, hb1⟩
  have HB := Lib.hid (hB.below hb1)
  have HS := Lib.hid (hS.below hb1)
  have HL := Lib.hid (hb0.trans (hb1.mono hb0.size))
  clear hB hb1 hb0 hS HVAL
  rw [fitsW_self]
  cases hok : okT (r.D off)
  · have HP := Lib.hid (show r.spanD off a turn = ⟨0, 0, 6⟩ from if_pos hok)
    have c0 := HS.out.cell 0 rfl
    have c1 := HS.out.cell 1 rfl
    have f0 := HS.out.frozen 0
    have f1 := HS.out.frozen 1
    have l1 := HS.out.lt
    clear hok
    go_wp2_with fail
    refine bodyPost_ret (res33 rfl _ _ gs 0 0 6 rfl rfl (HS.out.set2 _ _)) rfl ⟨by rw [HP.out], (HL.out.setCell HGS.out _).setCell HGS.out _⟩
  have HP := Lib.hid (Rnd.spanD_is HV.out hok ha turn)
  have f1 := Rnd.abv_facts HV.out hok ha (b := 0) (by omega)
  have f2 := Rnd.abv_facts HV.out hok (a := 0) (by omega) ha
  have HC1 := Lib.hid (show ∀ W : World, Below w1.heap.size w1 W → Calls Tryd.prog 56 #[r.val oa ca, .int .i64 off, .int .i64 (a : Nat), .int .i64 0] W fun e w' => e = .returned (.int .i64 (r.abv off a 0)) ∧ Below W.heap.size W w' from fun W h => above_any r oa ca off a 0 W HV.out hok ha (by omega) ((HA.out.mono HL.out).mono h))
  have HC2 := Lib.hid (show ∀ W : World, Below w1.heap.size w1 W → Calls Tryd.prog 56 #[r.val oa ca, .int .i64 off, .int .i64 0, .int .i64 (a : Nat)] W fun e w' => e = .returned (.int .i64 (r.abv off 0 a)) ∧ Below W.heap.size W w' from fun W h => above_any r oa ca off 0 a W HV.out hok (by omega) ha ((HA.out.mono HL.out).mono h))
  obtain ⟨h, hh⟩ : ∃ x, x = r.abv off a 0 := ⟨_, rfl⟩
  obtain ⟨l, hl⟩ : ∃ x, x = r.abv off 0 a := ⟨_, rfl⟩
  rw [← hh] at HP f1 HC1
  rw [← hl] at HP f2 HC2
  have p1 : -900000000 ≤ h := by omega
  have p2 : h ≤ 1073741824 := by omega
  have p3 : -900000000 ≤ l := by omega
  have p4 : l ≤ 1073741824 := by omega
  clear hh hl f1 f2 hok
  go_wp2_with fail
  have hCC : ∀ A B : World, Below w1.heap.size w1 A → Below A.heap.size A B → Below w1.heap.size w1 B := fun A B h1 h2 => h1.trans (h2.mono h1.size)
  have hC0 : Below w1.heap.size w1 w1.drew := (Below.refl _ _).drew
  refine wp_region_garb (fun A => Below w1.heap.size w1 A) (by kernel_rfl) ?_
  (refine wpAnyG_take (i := 0) hCC hC0 rfl (by kernel_rfl) (by kernel_rfl) (by kernel_rfl) (fun _ _ _ _ h => h) (by rfl) ?_; apply Exists.intro; refine ⟨fun w1 h1 K hK => ?_, ?_⟩; · (have q0 : ∀ V : Aft w1, V.val.cell? ⟨gr, 0, none⟩ = some (.int .i64 r.nb) := fun V => (HB.out.below (hCC _ _ h1 V.below)).cell 0 rfl; have q1 : ∀ V : Aft w1, V.val.cell? ⟨gr, 1, none⟩ = some (.int .i64 r.nm) := fun V => (HB.out.below (hCC _ _ h1 V.below)).cell 1 rfl; have q2 : ∀ V : Aft w1, V.val.cell? ⟨gr, 2, none⟩ = some (.int .i64 r.most) := fun V => (HB.out.below (hCC _ _ h1 V.below)).cell 2 rfl; have q3 : ∀ V : Aft w1, V.val.cell? ⟨gr, 3, none⟩ = some (.slice oa r.n ca) := fun V => (HB.out.below (hCC _ _ h1 V.below)).cell 3 rfl; have q4 : ∀ V : Aft w1, gr < V.val.heap.size := fun V => (HB.out.below (hCC _ _ h1 V.below)).lt; go_big_quiet_op; first | exact hK | fail))
  (refine wpAnyG_take (i := 1) hCC hC0 rfl (by kernel_rfl) (by kernel_rfl) (by kernel_rfl) (fun _ _ _ _ h => h) (by rfl) ?_; apply Exists.intro; refine ⟨fun w1 h1 K hK => ?_, ?_⟩; · ( go_big_quiet_op; first | exact hK | fail))
  (refine wpAnyG_take (i := 2) hCC hC0 rfl (by kernel_rfl) (by kernel_rfl) (by kernel_rfl) (fun _ _ _ _ h => h) (by rfl) ?_; apply Exists.intro; refine ⟨fun w1 h1 K hK => ?_, ?_⟩; · ( go_big_quiet_op; first | exact hK | fail))
  (refine wpAnyG_take (i := 3) hCC hC0 rfl (by kernel_rfl) (by kernel_rfl) (by kernel_rfl) (fun _ _ _ _ h => h) (by rfl) ?_; apply Exists.intro; refine ⟨fun w1 h1 K hK => ?_, ?_⟩; · ( go_big_quiet_op; first | exact hK | exact ⟨_, fun W => aft_call (HC1.out _ (hCC _ _ h1 W.below)), hK⟩))
  (refine wpAnyG_take (i := 4) hCC hC0 rfl (by kernel_rfl) (by kernel_rfl) (by kernel_rfl) (fun _ _ _ _ h => h) (by rfl) ?_; apply Exists.intro; refine ⟨fun w1 h1 K hK => ?_, ?_⟩; · (have q0 : ∀ V : Aft w1, V.val.cell? ⟨gr, 0, none⟩ = some (.int .i64 r.nb) := fun V => (HB.out.below (hCC _ _ h1 V.below)).cell 0 rfl; have q1 : ∀ V : Aft w1, V.val.cell? ⟨gr, 1, none⟩ = some (.int .i64 r.nm) := fun V => (HB.out.below (hCC _ _ h1 V.below)).cell 1 rfl; have q2 : ∀ V : Aft w1, V.val.cell? ⟨gr, 2, none⟩ = some (.int .i64 r.most) := fun V => (HB.out.below (hCC _ _ h1 V.below)).cell 2 rfl; have q3 : ∀ V : Aft w1, V.val.cell? ⟨gr, 3, none⟩ = some (.slice oa r.n ca) := fun V => (HB.out.below (hCC _ _ h1 V.below)).cell 3 rfl; have q4 : ∀ V : Aft w1, gr < V.val.heap.size := fun V => (HB.out.below (hCC _ _ h1 V.below)).lt; go_big_quiet_op; first | exact hK | fail))
  (refine wpAnyG_take (i := 5) hCC hC0 rfl (by kernel_rfl) (by kernel_rfl) (by kernel_rfl) (fun _ _ _ _ h => h) (by rfl) ?_; apply Exists.intro; refine ⟨fun w1 h1 K hK => ?_, ?_⟩; · ( go_big_quiet_op; first | exact hK | fail))
  (refine wpAnyG_take (i := 6) hCC hC0 rfl (by kernel_rfl) (by kernel_rfl) (by kernel_rfl) (fun _ _ _ _ h => h) (by rfl) ?_; apply Exists.intro; refine ⟨fun w1 h1 K hK => ?_, ?_⟩; · ( go_big_quiet_op; first | exact hK | fail))
  (refine wpAnyG_take (i := 7) hCC hC0 rfl (by kernel_rfl) (by kernel_rfl) (by kernel_rfl) (fun _ _ _ _ h => h) (by rfl) ?_; apply Exists.intro; refine ⟨fun w1 h1 K hK => ?_, ?_⟩; · ( go_big_quiet_op; first | exact hK | exact ⟨_, fun W => aft_call (HC2.out _ (hCC _ _ h1 W.below)), hK⟩))
  (refine wpAnyG_one (i := 8) (by kernel_rfl) rfl (by rfl) (fun wa hwa K hK => ?_))
  go_simp
  have hCa := hCC _ _ hC0 hwa
  refine hK _ _ hCa ?_
  clear hK K
  (refine wpAnyG_one (i := 9) (by kernel_rfl) rfl (by rfl) (fun wb hwb K hK => ?_))
  go_simp
  have hCb := hCC _ _ hCa hwb
  refine hK _ _ hCb ?_
  clear hK K
  refine wpAnyG_done (by kernel_rfl) (fun wy hwy => ?_) _
  have hby := hCC _ _ hCb hwy
  clear hC0 hwa hCa hwb hCb hwy hCC HC1 HC2
  replace HS := Lib.hid (HS.out.below hby)
  replace HL := Lib.hid (HL.out.trans (hby.mono HL.out.size))
  clear hby HB
  have c0 := HS.out.cell 0 rfl
  have c1 := HS.out.cell 1 rfl
  have g0 := HS.out.frozen 0
  have g1 := HS.out.frozen 1
  have l1 := HS.out.lt
  by_cases e1 : h = 1073741824
  · subst e1
    have HX := Lib.hid (show r.spanD off a turn = ⟨0, 0, 4⟩ by rw [HP.out, spanT_none (.inl rfl)])
    go_wp2_with fail
    refine bodyPost_ret (res33 rfl _ _ gs 0 0 4 rfl rfl (HS.out.set2 _ _)) rfl ⟨by rw [HX.out], (HL.out.setCell HGS.out _).setCell HGS.out _⟩
  have z1 : (h == 1073741824) = false := by simp; omega
  by_cases e2 : l = 1073741824
  · subst e2
    have HX := Lib.hid (show r.spanD off a turn = ⟨0, 0, 4⟩ by rw [HP.out, spanT_none (.inr rfl)])
    go_wp2_with fail
    refine bodyPost_ret (res33 rfl _ _ gs 0 0 4 rfl rfl (HS.out.set2 _ _)) rfl ⟨by rw [HX.out], (HL.out.setCell HGS.out _).setCell HGS.out _⟩
  have z2 : (l == 1073741824) = false := by simp; omega
  cases turn
  · have HX := Lib.hid (show r.spanD off a false = ⟨-l, h, 0⟩ by rw [HP.out, spanT_plain (by omega)])
    go_wp2_with fail
    refine bodyPost_ret (res33 rfl _ _ gs (-l) h 0 rfl rfl (HS.out.set2 _ _)) rfl ⟨by rw [HX.out], (HL.out.setCell HGS.out _).setCell HGS.out _⟩
  · have HX := Lib.hid (show r.spanD off a true = ⟨-h, l, 0⟩ by rw [HP.out, spanT_turn (by omega)])
    go_wp2_with fail
    refine bodyPost_ret (res33 rfl _ _ gs (-h) l 0 rfl rfl (HS.out.set2 _ _)) rfl ⟨by rw [HX.out], (HL.out.setCell HGS.out _).setCell HGS.out _⟩
theorem Rnd.fault_is {r : Rnd} {off i : Int} (he : r.err off = 0) (hi : withinB i 0 (r.nb - 1) = true) : r.spanD off (1 + i.toNat) true = r.fault off i := by
  have hh := Rnd.valid_head (Rnd.err_zero he).1
  have hw := hi
  have hw := hi
  unfold withinB at hi
  simp only [decide_eq_true_eq] at hi
  have e : upI r.nb.toNat (1 + i.toNat) = 1 + i.toNat := by unfold upI; rw [if_pos (by omega)]
  unfold Rnd.fault Rnd.tell Rnd.spanD
  rw [hw, if_neg (not_not_intro he), if_neg (show ¬ (true = false) from Bool.noConfusion), e]
theorem Rnd.error_is {r : Rnd} {off i : Int} (he : r.err off = 0) (hi : withinB i 0 (r.nm - 1) = true) : r.spanD off (1 + r.nb.toNat + i.toNat) false = r.error off i := by
  have hh := Rnd.valid_head (Rnd.err_zero he).1
  have hw := hi
  have hw := hi
  unfold withinB at hi
  simp only [decide_eq_true_eq] at hi
  have e : upI r.nb.toNat (1 + r.nb.toNat + i.toNat) = 7 + i.toNat := by unfold upI; rw [if_neg (by omega)]; omega
  unfold Rnd.error Rnd.tell Rnd.spanD
  rw [hw, if_neg (not_not_intro he), if_neg (show ¬ (true = false) from Bool.noConfusion), e]
set_option maxRecDepth 100000 in
set_option maxHeartbeats 8000000 in
theorem dfault_any (r : Rnd) (oa : Option Addr) (ca : Nat) (off i : Int) (w : World) (hn : r.n ≤ 1000000) (hA : TrpsAt w oa r.n r.t) :
    Calls Tryd.prog 17 #[r.val oa ca, .int .i64 off, .int .i64 i] w fun e w' => e = .returned (r.fault off i).val ∧ Below w.heap.size w w' := by
  have HA := Lib.hid hA
  clear hA
  go_enter Tryd.func17, Tryd.ntmps17
  go_wp2_with fail
  have hb0 := (below_alloc1 w (.cells #[.int .i64 r.nb, .int .i64 r.nm, .int .i64 r.most, .slice oa r.n ca] 24)).alloc (by simp) (.cells #[.int .i64 0, .int .i64 0] 33)
  have hB := (Box.new (g := w.heap.size) #[.int .i64 r.nb, .int .i64 r.nm, .int .i64 r.most, .slice oa r.n ca] 24 w rfl).old (.cells #[.int .i64 0, .int .i64 0] 33)
  have hS := Box.new (g := w.heap.size + 1) #[.int .i64 0, .int .i64 0] 33 (w.alloc (.cells #[.int .i64 r.nb, .int .i64 r.nm, .int .i64 r.most, .slice oa r.n ca] 24)) (by simp)
  obtain ⟨W, hW⟩ : ∃ X, X = (w.alloc (.cells #[.int .i64 r.nb, .int .i64 r.nm, .int .i64 r.most, .slice oa r.n ca] 24)).alloc (.cells #[.int .i64 0, .int .i64 0] 33) := ⟨_, rfl⟩
  rw [← hW] at hb0 hB hS ⊢
  clear hW
  obtain ⟨gs, hgs⟩ : ∃ G, G = w.heap.size + 1 := ⟨_, rfl⟩
  rw [← hgs] at hS ⊢
  obtain ⟨gr, hgr⟩ : ∃ G, G = w.heap.size := ⟨_, rfl⟩
  rw [← hgr] at hB ⊢
  have HGS := Lib.hid (show w.heap.size ≤ gs by omega)
  clear hgr hgs
  refine (start_any r oa ca off W hn (HA.out.mono hb0)).mono ?_
  rintro e w1 ⟨rfl, hb1⟩
  have HB := Lib.hid (hB.below hb1)
  have HS := Lib.hid (hS.below hb1)
  have HL := Lib.hid (hb0.trans (hb1.mono hb0.size))
  clear hB hb1 hb0 hS
  have c0 := HS.out.cell 0 rfl
  have c1 := HS.out.cell 1 rfl
  have f0 := HS.out.frozen 0
  have f1 := HS.out.frozen 1
  have l1 := HS.out.lt
  by_cases he : r.err off = 0
  case neg =>
    have hq : (r.err off != 0) = true := by simpa using he
    have hq2 : (r.err off == 0) = false := by simpa using he
    have HP := Lib.hid (show r.fault off i = ⟨0, 0, r.err off⟩ by unfold Rnd.fault Rnd.tell; rw [if_pos he])
    obtain ⟨er, her⟩ : ∃ x, x = r.err off := ⟨_, rfl⟩
    rw [← her] at he hq hq2 HP ⊢
    clear her
    go_wp2_with fail
    refine bodyPost_ret (res33 rfl _ _ gs 0 0 er rfl rfl (HS.out.set2 _ _)) rfl ⟨by rw [HP.out], (HL.out.setCell HGS.out _).setCell HGS.out _⟩
  rw [he]
  have hv := (Rnd.err_zero he).1
  have hh := Rnd.valid_head hv
  have HE := Lib.hid he
  have HV := Lib.hid hv
  have x1 := hh.1.1
  have x2 := hh.1.2
  have x3 := hh.2.1.1
  have x4 := hh.2.1.2
  clear he hv hh
  have b0 := HB.out.cell 0 (v := .int .i64 r.nb) rfl
  have b1 := HB.out.cell 1 (v := .int .i64 r.nm) rfl
  have b2 := HB.out.cell 2 (v := .int .i64 r.most) rfl
  have b3 := HB.out.cell 3 (v := .slice oa r.n ca) rfl
  have b4 := HB.out.lt
  go_wp2_with fail
  refine (in_any _ _ _ _).mono ?_
  rintro e w2 ⟨rfl, rfl⟩
  cases hi : withinB i 0 (r.nb - 1)
  · have HP := Lib.hid (show r.fault off i = ⟨0, 0, 2⟩ by unfold Rnd.fault Rnd.tell; rw [if_neg (by rw [HE.out]; simp), if_pos hi])
    clear hi
    go_wp2_with fail
    refine bodyPost_ret (res33 rfl _ _ gs 0 0 2 rfl rfl (HS.out.set2 _ _)) rfl ⟨by rw [HP.out], (HL.out.setCell HGS.out _).setCell HGS.out _⟩
  have HP := Lib.hid (Rnd.fault_is HE.out hi)
  have hi2 : 0 ≤ i ∧ i ≤ r.nb - 1 := by simpa only [withinB, decide_eq_true_eq] using hi
  have y1 := hi2.1
  have y2 := hi2.2
  have HC := Lib.hid (dspan_any r oa ca off (1 + i.toNat) true w1 HV.out (by omega) (HA.out.mono HL.out))
  have HAT := Lib.hid (show ((1 + i.toNat : Nat) : Int) = 1 + i by omega)
  rw [HAT.out] at HC
  clear hi hi2 HAT
  obtain ⟨T, hTT⟩ : ∃ T, T = r.spanD off (1 + i.toNat) true := ⟨_, rfl⟩
  rw [← hTT] at HP HC
  clear hTT
  obtain ⟨ta, tb, te⟩ := T
  have x7 : i ≤ 5 := by omega
  clear c0 c1 f0 f1 l1
  go_wp2_with fail
  refine HC.out.mono ?_
  rintro e w2 ⟨rfl, hb2⟩
  replace HS := Lib.hid (HS.out.below hb2)
  replace HL := Lib.hid (HL.out.trans (hb2.mono HL.out.size))
  clear hb2 b0 b1 b2 b3 b4 HB HC
  have c0 := HS.out.cell 0 rfl
  have c1 := HS.out.cell 1 rfl
  have f0 := HS.out.frozen 0
  have f1 := HS.out.frozen 1
  have l1 := HS.out.lt
  go_wp2_with fail
  refine bodyPost_ret (res33 rfl _ _ gs ta tb te rfl rfl (HS.out.set2 _ _)) rfl ⟨by rw [← HP.out], (HL.out.setCell HGS.out _).setCell HGS.out _⟩
set_option maxRecDepth 100000 in
set_option maxHeartbeats 8000000 in
theorem derror_any (r : Rnd) (oa : Option Addr) (ca : Nat) (off i : Int) (w : World) (hn : r.n ≤ 1000000) (hA : TrpsAt w oa r.n r.t) :
    Calls Tryd.prog 19 #[r.val oa ca, .int .i64 off, .int .i64 i] w fun e w' => e = .returned (r.error off i).val ∧ Below w.heap.size w w' := by
  have HA := Lib.hid hA
  clear hA
  go_enter Tryd.func19, Tryd.ntmps19
  go_wp2_with fail
  have hb0 := (below_alloc1 w (.cells #[.int .i64 r.nb, .int .i64 r.nm, .int .i64 r.most, .slice oa r.n ca] 24)).alloc (by simp) (.cells #[.int .i64 0, .int .i64 0] 33)
  have hB := (Box.new (g := w.heap.size) #[.int .i64 r.nb, .int .i64 r.nm, .int .i64 r.most, .slice oa r.n ca] 24 w rfl).old (.cells #[.int .i64 0, .int .i64 0] 33)
  have hS := Box.new (g := w.heap.size + 1) #[.int .i64 0, .int .i64 0] 33 (w.alloc (.cells #[.int .i64 r.nb, .int .i64 r.nm, .int .i64 r.most, .slice oa r.n ca] 24)) (by simp)
  obtain ⟨W, hW⟩ : ∃ X, X = (w.alloc (.cells #[.int .i64 r.nb, .int .i64 r.nm, .int .i64 r.most, .slice oa r.n ca] 24)).alloc (.cells #[.int .i64 0, .int .i64 0] 33) := ⟨_, rfl⟩
  rw [← hW] at hb0 hB hS ⊢
  clear hW
  obtain ⟨gs, hgs⟩ : ∃ G, G = w.heap.size + 1 := ⟨_, rfl⟩
  rw [← hgs] at hS ⊢
  obtain ⟨gr, hgr⟩ : ∃ G, G = w.heap.size := ⟨_, rfl⟩
  rw [← hgr] at hB ⊢
  have HGS := Lib.hid (show w.heap.size ≤ gs by omega)
  clear hgr hgs
  refine (start_any r oa ca off W hn (HA.out.mono hb0)).mono ?_
  rintro e w1 ⟨rfl, hb1⟩
  have HB := Lib.hid (hB.below hb1)
  have HS := Lib.hid (hS.below hb1)
  have HL := Lib.hid (hb0.trans (hb1.mono hb0.size))
  clear hB hb1 hb0 hS
  have c0 := HS.out.cell 0 rfl
  have c1 := HS.out.cell 1 rfl
  have f0 := HS.out.frozen 0
  have f1 := HS.out.frozen 1
  have l1 := HS.out.lt
  by_cases he : r.err off = 0
  case neg =>
    have hq : (r.err off != 0) = true := by simpa using he
    have hq2 : (r.err off == 0) = false := by simpa using he
    have HP := Lib.hid (show r.error off i = ⟨0, 0, r.err off⟩ by unfold Rnd.error Rnd.tell; rw [if_pos he])
    obtain ⟨er, her⟩ : ∃ x, x = r.err off := ⟨_, rfl⟩
    rw [← her] at he hq hq2 HP ⊢
    clear her
    go_wp2_with fail
    refine bodyPost_ret (res33 rfl _ _ gs 0 0 er rfl rfl (HS.out.set2 _ _)) rfl ⟨by rw [HP.out], (HL.out.setCell HGS.out _).setCell HGS.out _⟩
  rw [he]
  have hv := (Rnd.err_zero he).1
  have hh := Rnd.valid_head hv
  have HE := Lib.hid he
  have HV := Lib.hid hv
  have x1 := hh.1.1
  have x2 := hh.1.2
  have x3 := hh.2.1.1
  have x4 := hh.2.1.2
  clear he hv hh
  have b0 := HB.out.cell 0 (v := .int .i64 r.nb) rfl
  have b1 := HB.out.cell 1 (v := .int .i64 r.nm) rfl
  have b2 := HB.out.cell 2 (v := .int .i64 r.most) rfl
  have b3 := HB.out.cell 3 (v := .slice oa r.n ca) rfl
  have b4 := HB.out.lt
  go_wp2_with fail
  refine (in_any _ _ _ _).mono ?_
  rintro e w2 ⟨rfl, rfl⟩
  cases hi : withinB i 0 (r.nm - 1)
  · have HP := Lib.hid (show r.error off i = ⟨0, 0, 2⟩ by unfold Rnd.error Rnd.tell; rw [if_neg (by rw [HE.out]; simp), if_pos hi])
    clear hi
    go_wp2_with fail
    refine bodyPost_ret (res33 rfl _ _ gs 0 0 2 rfl rfl (HS.out.set2 _ _)) rfl ⟨by rw [HP.out], (HL.out.setCell HGS.out _).setCell HGS.out _⟩
  have HP := Lib.hid (Rnd.error_is HE.out hi)
  have hi2 : 0 ≤ i ∧ i ≤ r.nm - 1 := by simpa only [withinB, decide_eq_true_eq] using hi
  have y1 := hi2.1
  have y2 := hi2.2
  have HC := Lib.hid (dspan_any r oa ca off (1 + r.nb.toNat + i.toNat) false w1 HV.out (by omega) (HA.out.mono HL.out))
  have HAT := Lib.hid (show ((1 + r.nb.toNat + i.toNat : Nat) : Int) = 1 + r.nb + i by omega)
  rw [HAT.out] at HC
  clear hi hi2 HAT
  obtain ⟨T, hTT⟩ : ∃ T, T = r.spanD off (1 + r.nb.toNat + i.toNat) false := ⟨_, rfl⟩
  rw [← hTT] at HP HC
  clear hTT
  obtain ⟨ta, tb, te⟩ := T
  have x7 : i ≤ 5 := by omega
  clear c0 c1 f0 f1 l1
  go_wp2_with fail
  refine HC.out.mono ?_
  rintro e w2 ⟨rfl, hb2⟩
  replace HS := Lib.hid (HS.out.below hb2)
  replace HL := Lib.hid (HL.out.trans (hb2.mono HL.out.size))
  clear hb2 b0 b1 b2 b3 b4 HB HC
  have c0 := HS.out.cell 0 rfl
  have c1 := HS.out.cell 1 rfl
  have f0 := HS.out.frozen 0
  have f1 := HS.out.frozen 1
  have l1 := HS.out.lt
  go_wp2_with fail
  refine bodyPost_ret (res33 rfl _ _ gs ta tb te rfl rfl (HS.out.set2 _ _)) rfl ⟨by rw [← HP.out], (HL.out.setCell HGS.out _).setCell HGS.out _⟩
end Go.Proofs.YtldodmfmibeoiaaDoor
