/- Zone: the own span of a zone; spans that need a number. -/
import Derived.Test.YtipnaeijbbbdoaaW1
import Derived.Deep.DeepCutAuto
namespace Go.Proofs.Ytipnaeijbbbdoaa
open Go.RowKit
/-- the numbers of a zone are within their limits -/
def Zon.ok (z : Zon) : Prop := (0 ≤ z.i.lo ∧ z.i.lo ≤ z.i.hi ∧ z.i.hi ≤ 1073741824) ∧ (0 ≤ z.m.lo ∧ z.m.lo ≤ z.m.hi ∧ z.m.hi ≤ 1073741824) ∧ (-500 ≤ z.e.lo ∧ z.e.lo ≤ z.e.hi ∧ z.e.hi ≤ 500) ∧ (0 ≤ z.l.lo ∧ z.l.lo ≤ z.l.hi ∧ z.l.hi ≤ 1073741824)
/-- the own span -/
def Zon.own (z : Zon) : Spn := ⟨max 0 (z.i.lo - thrD z.m.hi z.e.lo - z.l.hi), z.i.hi - thrU z.m.lo z.e.hi - z.l.lo⟩
theorem thrD_bd {s e : Int} (h0 : 0 ≤ s) (h1 : s ≤ 1073741824) (he0 : -500 ≤ e) : 0 ≤ thrD s e ∧ thrD s e ≤ 1073741824000 := by
  have ha : 0 ≤ 1000 * s := by omega
  have h2 : 0 ≤ thrD s e := Int.ediv_nonneg ha (by omega)
  have h3 : thrD s e ≤ 1000 * s := Int.ediv_le_self _ ha
  omega
theorem thrU_bd {s e : Int} (h0 : 0 ≤ s) (h1 : s ≤ 1073741824) (he0 : -500 ≤ e) (he1 : e ≤ 500) : 0 ≤ thrU s e ∧ thrU s e ≤ 1073741825500 := by
  have ha : 0 ≤ 1000 * s + (1000 + e) - 1 := by omega
  have h2 : 0 ≤ thrU s e := Int.ediv_nonneg ha (by omega)
  have h3 : thrU s e ≤ 1000 * s + (1000 + e) - 1 := Int.ediv_le_self _ ha
  omega
theorem Zon.own_bd {z : Zon} (h : z.ok) : 0 ≤ z.own.lo ∧ z.own.lo ≤ 1073741824 ∧ -2000000000000 ≤ z.own.hi ∧ z.own.hi ≤ 1073741824 := by
  obtain ⟨h1, h2, h3, h4⟩ := h
  have d := thrD_bd (s := z.m.hi) (e := z.e.lo) (by omega) (by omega) (by omega)
  have u := thrU_bd (s := z.m.lo) (e := z.e.hi) (by omega) (by omega) (by omega) (by omega)
  unfold Zon.own
  simp only
  omega
/-- results: a span in a cell -/
theorem res41 {fn : Func} {p : Tmp} (h : fn.results = #[.cell p 41]) (tmps : Array Value) (w : World) (g : Nat) (a b : Int) (hp : tmps.getD p undef = .pointer (some ⟨g, 0, none⟩)) (hB : Box g #[.int .i64 a, .int .i64 b] 41 w) :
    (results fn tmps).run Try.prog w = .ok (.agg #[.int .i64 a, .int .i64 b]) w := by
  have hp' : tmps[p]?.getD undef = .pointer (some ⟨g, 0, none⟩) := by simpa using hp
  have hl : (loadVar 41 ⟨g, 0, none⟩).run Try.prog w = .ok (.agg #[.int .i64 a, .int .i64 b]) w := run_loadVar_row (P := Try.prog) w g 41 41 #[.int .i64 a, .int .i64 b] (0, 0) (Option.getD (Try.prog.underlying 41) (.array 0 0)) hB.row (by kernel_rfl) (by kernel_rfl) (by kernel_rfl)
  unfold results
  simp only [h]
  simp [hp', asAddr, hl]
set_option maxRecDepth 100000 in
set_option maxHeartbeats 8000000 in
theorem ownOf_any (z : Zon) (w : World) (hz : z.ok) :
    Calls Try.prog 31 #[z.val] w fun e w' => e = .returned z.own.val ∧ Below w.heap.size w w' := by
  obtain ⟨h1, h2, h3, h4⟩ := hz
  have d := thrD_bd (s := z.m.hi) (e := z.e.lo) (by omega) (by omega) (by omega)
  have u := thrU_bd (s := z.m.lo) (e := z.e.hi) (by omega) (by omega) (by omega) (by omega)
  have HD := Lib.hid (fun (W : World) => throughD_any z.m.hi z.e.lo W (by omega) (by omega) (by omega) (by omega))
  have HU := Lib.hid (fun (W : World) => throughU_any z.m.lo z.e.hi W (by omega) (by omega) (by omega) (by omega))
  have HO := Lib.hid (show z.own = ⟨max 0 (z.i.lo - thrD z.m.hi z.e.lo - z.l.hi), z.i.hi - thrU z.m.lo z.e.hi - z.l.lo⟩ from rfl)
  obtain ⟨D, hD⟩ : ∃ D, D = thrD z.m.hi z.e.lo := ⟨_, rfl⟩
  obtain ⟨U, hU⟩ : ∃ U, U = thrU z.m.lo z.e.hi := ⟨_, rfl⟩
  rw [← hD] at d HD HO
  rw [← hU] at u HU HO
  clear hD hU
  obtain ⟨⟨ilo, ihi⟩, ⟨mlo, mhi⟩, ⟨elo, ehi⟩, ⟨llo, lhi⟩, p⟩ := z
  simp only at h1 h2 h3 h4 HD HU HO
  obtain ⟨h11, h12, h13⟩ := h1
  obtain ⟨h41, h42, h43⟩ := h4
  obtain ⟨d1, d2⟩ := d
  obtain ⟨u1, u2⟩ := u
  clear h2 h3
  go_enter Try.func31, Try.ntmps31
  go_upto_region 1 with fail
  have hb0 := (below_alloc1 w (.cells #[.int .i64 ilo, .int .i64 ihi, .int .i64 mlo, .int .i64 mhi, .int .i64 elo, .int .i64 ehi, .int .i64 llo, .int .i64 lhi, .int .i64 p] 48)).alloc (by simp) (.cells #[.int .i64 0, .int .i64 0] 41)
  have hB := (Box.new (g := w.heap.size) #[.int .i64 ilo, .int .i64 ihi, .int .i64 mlo, .int .i64 mhi, .int .i64 elo, .int .i64 ehi, .int .i64 llo, .int .i64 lhi, .int .i64 p] 48 w rfl).old (.cells #[.int .i64 0, .int .i64 0] 41)
  have hS := Box.new (g := w.heap.size + 1) #[.int .i64 0, .int .i64 0] 41 (w.alloc (.cells #[.int .i64 ilo, .int .i64 ihi, .int .i64 mlo, .int .i64 mhi, .int .i64 elo, .int .i64 ehi, .int .i64 llo, .int .i64 lhi, .int .i64 p] 48)) (by simp)
  obtain ⟨W, hW⟩ : ∃ X, X = (w.alloc (.cells #[.int .i64 ilo, .int .i64 ihi, .int .i64 mlo, .int .i64 mhi, .int .i64 elo, .int .i64 ehi, .int .i64 llo, .int .i64 lhi, .int .i64 p] 48)).alloc (.cells #[.int .i64 0, .int .i64 0] 41) := ⟨_, rfl⟩
  rw [← hW] at hb0 hB hS ⊢
  clear hW
  obtain ⟨gs, hgs⟩ : ∃ G, G = w.heap.size + 1 := ⟨_, rfl⟩
  rw [← hgs] at hS ⊢
  obtain ⟨gz, hgr⟩ : ∃ G, G = w.heap.size := ⟨_, rfl⟩
  rw [← hgr] at hB ⊢
  have HGS := Lib.hid (show w.heap.size ≤ gs by omega)
  clear hgr hgs
  have q0 : ∀ V : Aft W, V.val.cell? ⟨gz, 0, none⟩ = some (.int .i64 ilo) := fun V => (hB.below V.below).cell 0 rfl
  have q1 : ∀ V : Aft W, V.val.cell? ⟨gz, 3, none⟩ = some (.int .i64 mhi) := fun V => (hB.below V.below).cell 3 rfl
  have q2 : ∀ V : Aft W, V.val.cell? ⟨gz, 4, none⟩ = some (.int .i64 elo) := fun V => (hB.below V.below).cell 4 rfl
  have q3 : ∀ V : Aft W, V.val.cell? ⟨gz, 7, none⟩ = some (.int .i64 lhi) := fun V => (hB.below V.below).cell 7 rfl
  have q9 : ∀ V : Aft W, gz < V.val.heap.size := fun V => (hB.below V.below).lt
  refine wp_region_aft (by kernel_rfl) (by kernel_rfl) ?_
  repeat (go_big_quiet_step ((go_at_call 54; exact aft_call (HD.out _))))
  refine wpQuiet_nil ?_
  intro WA
  obtain ⟨wy, hwy⟩ : ∃ X, X = WA.val := ⟨_, rfl⟩
  have hby := WA.below
  rw [← hwy] at hby ⊢
  clear hwy WA
  have HZ := Lib.hid (hB.below hby)
  have HS := Lib.hid (hS.below hby)
  have HL := Lib.hid (hb0.trans (hby.mono hb0.size))
  clear q0 q1 q2 q3 q9 hby hB hS hb0
  go_upto_region 2 with fail
  have hP0 : ∀ A B : World, Below wy.heap.size wy A → Below A.heap.size A B → Below wy.heap.size wy B := fun A B h1 h2 => h1.trans (h2.mono h1.size)
  have hP1 : ∀ A B : World, gs < A.heap.size → Below A.heap.size A B → gs < B.heap.size := fun _ _ h1 h2 => Nat.lt_of_lt_of_le h1 h2.size
  have hP01 : ∀ A : World, Below wy.heap.size wy A → gs < A.heap.size := fun _ h1 => Nat.lt_of_lt_of_le HS.out.lt h1.size
  have hC0 : Below wy.heap.size wy wy.drew := (Below.refl _ _).drew
  refine wp_region_phase 18 (fun A => Below wy.heap.size wy A) (fun A => gs < A.heap.size) (by kernel_rfl) ?_
  (refine wpAnyP_take0 (i := 0) hP0 hP1 hC0 (by decide) (by rfl) rfl (by kernel_rfl) rfl (by kernel_rfl) (by kernel_rfl) (by kernel_rfl) (fun _ _ _ _ h => h) (by rfl) ?_; apply Exists.intro; refine ⟨fun w1 h1 K hK => ?_, ?_⟩; · ( go_big_quiet_op; first | exact hK | fail))
  (refine wpAnyP_take0 (i := 1) hP0 hP1 hC0 (by decide) (by rfl) rfl (by kernel_rfl) rfl (by kernel_rfl) (by kernel_rfl) (by kernel_rfl) (fun _ _ _ _ h => h) (by rfl) ?_; apply Exists.intro; refine ⟨fun w1 h1 K hK => ?_, ?_⟩; · ( go_big_quiet_op; first | exact hK | fail))
  (refine wpAnyP_take0 (i := 2) hP0 hP1 hC0 (by decide) (by rfl) rfl (by kernel_rfl) rfl (by kernel_rfl) (by kernel_rfl) (by kernel_rfl) (fun _ _ _ _ h => h) (by rfl) ?_; apply Exists.intro; refine ⟨fun w1 h1 K hK => ?_, ?_⟩; · (have q9 : ∀ V : Aft w1, gz < V.val.heap.size := fun V => (HZ.out.below (hP0 _ _ h1 V.below)).lt; go_big_quiet_op; first | exact hK | fail))
  (refine wpAnyP_take0 (i := 3) hP0 hP1 hC0 (by decide) (by rfl) rfl (by kernel_rfl) rfl (by kernel_rfl) (by kernel_rfl) (by kernel_rfl) (fun _ _ _ _ h => h) (by rfl) ?_; apply Exists.intro; refine ⟨fun w1 h1 K hK => ?_, ?_⟩; · (have q9 : ∀ V : Aft w1, gz < V.val.heap.size := fun V => (HZ.out.below (hP0 _ _ h1 V.below)).lt; go_big_quiet_op; first | exact hK | fail))
  (refine wpAnyP_take0 (i := 4) hP0 hP1 hC0 (by decide) (by rfl) rfl (by kernel_rfl) rfl (by kernel_rfl) (by kernel_rfl) (by kernel_rfl) (fun _ _ _ _ h => h) (by rfl) ?_; apply Exists.intro; refine ⟨fun w1 h1 K hK => ?_, ?_⟩; · (have q0 : ∀ V : Aft w1, V.val.cell? ⟨gz, 1, none⟩ = some (.int .i64 ihi) := fun V => (HZ.out.below (hP0 _ _ h1 V.below)).cell 1 rfl; go_big_quiet_op; first | exact hK | fail))
  (refine wpAnyP_take0 (i := 5) hP0 hP1 hC0 (by decide) (by rfl) rfl (by kernel_rfl) rfl (by kernel_rfl) (by kernel_rfl) (by kernel_rfl) (fun _ _ _ _ h => h) (by rfl) ?_; apply Exists.intro; refine ⟨fun w1 h1 K hK => ?_, ?_⟩; · (have q9 : ∀ V : Aft w1, gz < V.val.heap.size := fun V => (HZ.out.below (hP0 _ _ h1 V.below)).lt; go_big_quiet_op; first | exact hK | fail))
  (refine wpAnyP_take0 (i := 6) hP0 hP1 hC0 (by decide) (by rfl) rfl (by kernel_rfl) rfl (by kernel_rfl) (by kernel_rfl) (by kernel_rfl) (fun _ _ _ _ h => h) (by rfl) ?_; apply Exists.intro; refine ⟨fun w1 h1 K hK => ?_, ?_⟩; · (have q9 : ∀ V : Aft w1, gz < V.val.heap.size := fun V => (HZ.out.below (hP0 _ _ h1 V.below)).lt; go_big_quiet_op; first | exact hK | fail))
  (refine wpAnyP_take0 (i := 7) hP0 hP1 hC0 (by decide) (by rfl) rfl (by kernel_rfl) rfl (by kernel_rfl) (by kernel_rfl) (by kernel_rfl) (fun _ _ _ _ h => h) (by rfl) ?_; apply Exists.intro; refine ⟨fun w1 h1 K hK => ?_, ?_⟩; · (have q0 : ∀ V : Aft w1, V.val.cell? ⟨gz, 2, none⟩ = some (.int .i64 mlo) := fun V => (HZ.out.below (hP0 _ _ h1 V.below)).cell 2 rfl; go_big_quiet_op; first | exact hK | fail))
  (refine wpAnyP_take0 (i := 8) hP0 hP1 hC0 (by decide) (by rfl) rfl (by kernel_rfl) rfl (by kernel_rfl) (by kernel_rfl) (by kernel_rfl) (fun _ _ _ _ h => h) (by rfl) ?_; apply Exists.intro; refine ⟨fun w1 h1 K hK => ?_, ?_⟩; · (have q9 : ∀ V : Aft w1, gz < V.val.heap.size := fun V => (HZ.out.below (hP0 _ _ h1 V.below)).lt; go_big_quiet_op; first | exact hK | fail))
  (refine wpAnyP_take0 (i := 9) hP0 hP1 hC0 (by decide) (by rfl) rfl (by kernel_rfl) rfl (by kernel_rfl) (by kernel_rfl) (by kernel_rfl) (fun _ _ _ _ h => h) (by rfl) ?_; apply Exists.intro; refine ⟨fun w1 h1 K hK => ?_, ?_⟩; · (have q9 : ∀ V : Aft w1, gz < V.val.heap.size := fun V => (HZ.out.below (hP0 _ _ h1 V.below)).lt; go_big_quiet_op; first | exact hK | fail))
  (refine wpAnyP_take0 (i := 10) hP0 hP1 hC0 (by decide) (by rfl) rfl (by kernel_rfl) rfl (by kernel_rfl) (by kernel_rfl) (by kernel_rfl) (fun _ _ _ _ h => h) (by rfl) ?_; apply Exists.intro; refine ⟨fun w1 h1 K hK => ?_, ?_⟩; · (have q0 : ∀ V : Aft w1, V.val.cell? ⟨gz, 5, none⟩ = some (.int .i64 ehi) := fun V => (HZ.out.below (hP0 _ _ h1 V.below)).cell 5 rfl; go_big_quiet_op; first | exact hK | fail))
  (refine wpAnyP_take0 (i := 11) hP0 hP1 hC0 (by decide) (by rfl) rfl (by kernel_rfl) rfl (by kernel_rfl) (by kernel_rfl) (by kernel_rfl) (fun _ _ _ _ h => h) (by rfl) ?_; apply Exists.intro; refine ⟨fun w1 h1 K hK => ?_, ?_⟩; · ( go_big_quiet_op; first | exact hK | exact ⟨_, fun W => aft_call (HU.out _), hK⟩))
  (refine wpAnyP_take0 (i := 12) hP0 hP1 hC0 (by decide) (by rfl) rfl (by kernel_rfl) rfl (by kernel_rfl) (by kernel_rfl) (by kernel_rfl) (fun _ _ _ _ h => h) (by rfl) ?_; apply Exists.intro; refine ⟨fun w1 h1 K hK => ?_, ?_⟩; · ( go_big_quiet_op; first | exact hK | fail))
  (refine wpAnyP_take0 (i := 13) hP0 hP1 hC0 (by decide) (by rfl) rfl (by kernel_rfl) rfl (by kernel_rfl) (by kernel_rfl) (by kernel_rfl) (fun _ _ _ _ h => h) (by rfl) ?_; apply Exists.intro; refine ⟨fun w1 h1 K hK => ?_, ?_⟩; · (have q9 : ∀ V : Aft w1, gz < V.val.heap.size := fun V => (HZ.out.below (hP0 _ _ h1 V.below)).lt; go_big_quiet_op; first | exact hK | fail))
  (refine wpAnyP_take0 (i := 14) hP0 hP1 hC0 (by decide) (by rfl) rfl (by kernel_rfl) rfl (by kernel_rfl) (by kernel_rfl) (by kernel_rfl) (fun _ _ _ _ h => h) (by rfl) ?_; apply Exists.intro; refine ⟨fun w1 h1 K hK => ?_, ?_⟩; · (have q9 : ∀ V : Aft w1, gz < V.val.heap.size := fun V => (HZ.out.below (hP0 _ _ h1 V.below)).lt; go_big_quiet_op; first | exact hK | fail))
  (refine wpAnyP_take0 (i := 15) hP0 hP1 hC0 (by decide) (by rfl) rfl (by kernel_rfl) rfl (by kernel_rfl) (by kernel_rfl) (by kernel_rfl) (fun _ _ _ _ h => h) (by rfl) ?_; apply Exists.intro; refine ⟨fun w1 h1 K hK => ?_, ?_⟩; · (have q0 : ∀ V : Aft w1, V.val.cell? ⟨gz, 6, none⟩ = some (.int .i64 llo) := fun V => (HZ.out.below (hP0 _ _ h1 V.below)).cell 6 rfl; go_big_quiet_op; first | exact hK | fail))
  (refine wpAnyP_take0 (i := 16) hP0 hP1 hC0 (by decide) (by rfl) rfl (by kernel_rfl) rfl (by kernel_rfl) (by kernel_rfl) (by kernel_rfl) (fun _ _ _ _ h => h) (by rfl) ?_; apply Exists.intro; refine ⟨fun w1 h1 K hK => ?_, ?_⟩; · ( go_big_quiet_op; first | exact hK | fail))
  (refine wpAnyP_take0 (i := 17) hP0 hP1 hC0 (by decide) (by rfl) rfl (by kernel_rfl) rfl (by kernel_rfl) (by kernel_rfl) (by kernel_rfl) (fun _ _ _ _ h => h) (by rfl) ?_; apply Exists.intro; refine ⟨fun w1 h1 K hK => ?_, ?_⟩; · ( go_big_quiet_op; first | exact hK | fail))
  (refine wpAnyP_one (i := 18) (by kernel_rfl) rfl (by rfl) (fun wa hwa K hK => ?_))
  have hA := hP0 _ _ hC0 hwa
  refine wp_store_box (HS.out.below hA) rfl rfl rfl rfl (by kernel_rfl) (by simp [Value.oneCell']) (fun wb zs ho => ?_); dsimp only [Act.put]
  have hLb : Below w.heap.size w wb := (HL.out.trans (hA.mono HL.out.size)).trans (ho.below HGS.out)
  refine hK _ _ zs.lt ?_
  clear hK K
  refine wpAnyP_done (by kernel_rfl) (fun we hwe => ?_) _
  have hv : (if lhi < ilo - D then ilo - D - lhi else 0) = max 0 (ilo - D - lhi) := by split <;> omega
  rw [hv] at zs ⊢
  have HZ2 := Lib.hid (zs.below hwe)
  have HZB := Lib.hid (hLb.trans (hwe.mono hLb.size))
  clear hP0 hP1 hP01 hC0 hwa hA zs ho hLb hwe hv
  obtain ⟨mx, hmx⟩ : ∃ x, x = max 0 (ilo - D - lhi) := ⟨_, rfl⟩
  rw [← hmx] at HO HZ2 ⊢
  clear hmx
  go_wp2_with fail
  refine bodyPost_ret (res41 rfl _ _ gs _ _ rfl HZ2.out) rfl ⟨by rw [HO.out], HZB.out⟩
/-- the panic of a span that has no number -/
def misfit : List PanicEntry := [{ v := .iface 95 (.agg #[]), recovered := false }]
/-- a span that needs a number: itself, or the panic -/
def NeedP (s : Spn) (e : Ending) : Prop := (s.hi < s.lo ∧ e = .panicked misfit) ∨ (s.lo ≤ s.hi ∧ e = .returned s.val)
set_option maxHeartbeats 800000 in
theorem need_any (s : Spn) (w : World) :
    Calls Try.prog 59 #[s.val] w fun e w' => NeedP s e ∧ Below w.heap.size w w' := by
  go_enter Try.func59, Try.ntmps59
  go_wp2
  · have h : s.hi < s.lo := by assumption
    exact ⟨rfl, .inl ⟨h, rfl⟩, (by repeat' (first | exact Below.refl _ _ | assumption | apply below_drewN | apply Below.drew | (refine Below.alloc ?_ ?_ _) | (refine Below.setCell ?_ ?_ _) | (simp; done) | (simp; omega) | omega))⟩
  · have h : s.lo ≤ s.hi := by assumption
    refine bodyPost_ret (res41 rfl _ _ _ s.lo s.hi rfl (Box.new (g := w.heap.size + 1) #[.int .i64 s.lo, .int .i64 s.hi] 41 _ (by simp))) rfl ⟨.inr ⟨h, rfl⟩, (by repeat' (first | exact Below.refl _ _ | assumption | apply below_drewN | apply Below.drew | (refine Below.alloc ?_ ?_ _) | (refine Below.setCell ?_ ?_ _) | (simp; done) | (simp; omega) | omega))⟩
def cutS (a : Spn) (lo hi : Int) : Spn := ⟨max a.lo lo, min a.hi hi⟩
set_option maxRecDepth 100000 in
set_option maxHeartbeats 1600000 in
theorem cut_any (a : Spn) (lo hi : Int) (w : World) :
    Calls Try.prog 61 #[a.val, .int .i64 lo, .int .i64 hi] w fun e w' => NeedP (cutS a lo hi) e ∧ Below w.heap.size w w' := by
  have e1 : max a.lo lo = if a.lo < lo then lo else a.lo := by split <;> omega
  have e2 : min a.hi hi = if hi < a.hi then hi else a.hi := by split <;> omega
  have HC := Lib.hid (show cutS a lo hi = ⟨if a.lo < lo then lo else a.lo, if hi < a.hi then hi else a.hi⟩ by unfold cutS; rw [e1, e2])
  obtain ⟨C, hC⟩ : ∃ C, C = cutS a lo hi := ⟨_, rfl⟩
  rw [← hC] at HC ⊢
  clear hC e1 e2
  go_enter Try.func61, Try.ntmps61
  go_upto_region 1 with fail
  have hb0 := (below_alloc1 w (.cells #[.int .i64 a.lo, .int .i64 a.hi] 41)).alloc (by simp) (.cells #[.int .i64 0, .int .i64 0] 41)
  have hB := (Box.new (g := w.heap.size) #[.int .i64 a.lo, .int .i64 a.hi] 41 w rfl).old (.cells #[.int .i64 0, .int .i64 0] 41)
  have hS := Box.new (g := w.heap.size + 1) #[.int .i64 0, .int .i64 0] 41 (w.alloc (.cells #[.int .i64 a.lo, .int .i64 a.hi] 41)) (by simp)
  obtain ⟨W, hW⟩ : ∃ X, X = (w.alloc (.cells #[.int .i64 a.lo, .int .i64 a.hi] 41)).alloc (.cells #[.int .i64 0, .int .i64 0] 41) := ⟨_, rfl⟩
  rw [← hW] at hb0 hB hS ⊢
  clear hW
  obtain ⟨gs, hgs⟩ : ∃ G, G = w.heap.size + 1 := ⟨_, rfl⟩
  rw [← hgs] at hS ⊢
  obtain ⟨gz, hgr⟩ : ∃ G, G = w.heap.size := ⟨_, rfl⟩
  rw [← hgr] at hB ⊢
  have HGS := Lib.hid (show w.heap.size ≤ gs by omega)
  clear hgr hgs
  have HS := Lib.hid hS
  have HL := Lib.hid hb0
  have b0 := hB.cell 0 (v := .int .i64 a.lo) rfl
  have b1 := hB.cell 1 (v := .int .i64 a.hi) rfl
  have b2 := hB.lt
  clear hB hS hb0
  by_cases h1 : a.lo < lo
  · by_cases h2 : hi < a.hi
    · have HCC := Lib.hid (show C = ⟨lo, hi⟩ by rw [HC.out, if_pos h1, if_pos h2])
      have NA := Lib.hid (fun (W : World) => need_any ⟨lo, hi⟩ W)
      clear HC
      go_wp2_with fail
      refine (NA.out _).mono ?_
      rintro e w1 ⟨hn, hb⟩
      rw [← HCC.out] at hn
      have HL2 := Lib.hid (HL.out.trans (hb.mono HL.out.size))
      have HS2 := Lib.hid (HS.out.below hb)
      clear hb b0 b1 b2
      rcases hn with ⟨hn, rfl⟩ | ⟨hn, rfl⟩
      · exact ⟨rfl, .inl ⟨hn, rfl⟩, HL2.out⟩
      · have c0 := HS2.out.cell 0 (v := .int .i64 0) rfl
        have c1 := HS2.out.cell 1 (v := .int .i64 0) rfl
        have f0 := HS2.out.frozen 0
        have f1 := HS2.out.frozen 1
        have l1 := HS2.out.lt
        obtain ⟨clo, chi⟩ := C
        go_wp2_with fail
        refine bodyPost_ret (res41 rfl _ _ _ clo chi rfl (HS2.out.set2 _ _)) rfl ⟨.inr ⟨hn, rfl⟩, (HL2.out.setCell HGS.out _).setCell HGS.out _⟩
    · have HCC := Lib.hid (show C = ⟨lo, a.hi⟩ by rw [HC.out, if_pos h1, if_neg h2])
      have NA := Lib.hid (fun (W : World) => need_any ⟨lo, a.hi⟩ W)
      clear HC
      go_wp2_with fail
      refine (NA.out _).mono ?_
      rintro e w1 ⟨hn, hb⟩
      rw [← HCC.out] at hn
      have HL2 := Lib.hid (HL.out.trans (hb.mono HL.out.size))
      have HS2 := Lib.hid (HS.out.below hb)
      clear hb b0 b1 b2
      rcases hn with ⟨hn, rfl⟩ | ⟨hn, rfl⟩
      · exact ⟨rfl, .inl ⟨hn, rfl⟩, HL2.out⟩
      · have c0 := HS2.out.cell 0 (v := .int .i64 0) rfl
        have c1 := HS2.out.cell 1 (v := .int .i64 0) rfl
        have f0 := HS2.out.frozen 0
        have f1 := HS2.out.frozen 1
        have l1 := HS2.out.lt
        obtain ⟨clo, chi⟩ := C
        go_wp2_with fail
        refine bodyPost_ret (res41 rfl _ _ _ clo chi rfl (HS2.out.set2 _ _)) rfl ⟨.inr ⟨hn, rfl⟩, (HL2.out.setCell HGS.out _).setCell HGS.out _⟩
  · by_cases h2 : hi < a.hi
    · have HCC := Lib.hid (show C = ⟨a.lo, hi⟩ by rw [HC.out, if_neg h1, if_pos h2])
      have NA := Lib.hid (fun (W : World) => need_any ⟨a.lo, hi⟩ W)
      clear HC
      go_wp2_with fail
      refine (NA.out _).mono ?_
      rintro e w1 ⟨hn, hb⟩
      rw [← HCC.out] at hn
      have HL2 := Lib.hid (HL.out.trans (hb.mono HL.out.size))
      have HS2 := Lib.hid (HS.out.below hb)
      clear hb b0 b1 b2
      rcases hn with ⟨hn, rfl⟩ | ⟨hn, rfl⟩
      · exact ⟨rfl, .inl ⟨hn, rfl⟩, HL2.out⟩
      · have c0 := HS2.out.cell 0 (v := .int .i64 0) rfl
        have c1 := HS2.out.cell 1 (v := .int .i64 0) rfl
        have f0 := HS2.out.frozen 0
        have f1 := HS2.out.frozen 1
        have l1 := HS2.out.lt
        obtain ⟨clo, chi⟩ := C
        go_wp2_with fail
        refine bodyPost_ret (res41 rfl _ _ _ clo chi rfl (HS2.out.set2 _ _)) rfl ⟨.inr ⟨hn, rfl⟩, (HL2.out.setCell HGS.out _).setCell HGS.out _⟩
    · have HCC := Lib.hid (show C = ⟨a.lo, a.hi⟩ by rw [HC.out, if_neg h1, if_neg h2])
      have NA := Lib.hid (fun (W : World) => need_any ⟨a.lo, a.hi⟩ W)
      clear HC
      go_wp2_with fail
      refine (NA.out _).mono ?_
      rintro e w1 ⟨hn, hb⟩
      rw [← HCC.out] at hn
      have HL2 := Lib.hid (HL.out.trans (hb.mono HL.out.size))
      have HS2 := Lib.hid (HS.out.below hb)
      clear hb b0 b1 b2
      rcases hn with ⟨hn, rfl⟩ | ⟨hn, rfl⟩
      · exact ⟨rfl, .inl ⟨hn, rfl⟩, HL2.out⟩
      · have c0 := HS2.out.cell 0 (v := .int .i64 0) rfl
        have c1 := HS2.out.cell 1 (v := .int .i64 0) rfl
        have f0 := HS2.out.frozen 0
        have f1 := HS2.out.frozen 1
        have l1 := HS2.out.lt
        obtain ⟨clo, chi⟩ := C
        go_wp2_with fail
        refine bodyPost_ret (res41 rfl _ _ _ clo chi rfl (HS2.out.set2 _ _)) rfl ⟨.inr ⟨hn, rfl⟩, (HL2.out.setCell HGS.out _).setCell HGS.out _⟩
end Go.Proofs.Ytipnaeijbbbdoaa
