/- Travel: the table of all trips of a valid round; Fits. -/
import Derived.Test.YtlofopnjjeeehaaDoorV4
import Derived.Test.YtlofopnjjeeehaaDoorV5
namespace Go.Proofs.YtlofopnjjeeehaaDoor
open Go.RowKit
theorem bnd_any (r : Rnd) (oa : Option Addr) (ca : Nat) (off : Int) (set : Nat) (w : World) (hv : r.valid = true) (hT : TabAt 1 Lib.deBruijn64tab w) (hw1 : 1 < w.heap.size) (hA : TrpsAt w oa r.n r.t) (hs : set < 2 ^ r.n) :
    Calls Tryd.prog 15 #[r.val oa ca, .int .i64 off, .int .i64 set] w fun e w' => e = .returned (.tuple #[.agg (cells13 (r.tab off set)), .bool (okT (r.tab off set))]) ∧ Below w.heap.size w w' :=
  have hh := Rnd.valid_head hv
  boundsOf_any r oa ca off set w hT hw1 hA hh.2.2.2 hs (by omega) (by omega) (Rnd.valid_ok hv)
/-- the table of all trips -/
def Rnd.D (r : Rnd) (off : Int) : T13 := r.tab off (2 ^ r.n - 1)
theorem two_pred (n : Nat) : 2 ^ n - 1 < 2 ^ n := by have := Nat.two_pow_pos n; omega
def Rnd.fitsB (r : Rnd) (off : Int) : Bool := decide (r.err off = 0) && okT (r.D off)
theorem Rnd.err_zero {r : Rnd} {off : Int} (h : r.err off = 0) : r.valid = true ∧ -1 ≤ off ∧ off ≤ r.nb - 1 := by
  unfold Rnd.err at h
  split at h
  · cases h
  · rename_i h1
    split at h
    · cases h
    · rename_i h2
      simp only [Bool.not_eq_false, withinB, decide_eq_true_eq] at h1 h2
      exact ⟨h1, h2⟩
set_option maxRecDepth 100000 in
set_option maxHeartbeats 4000000 in
theorem fits_any (r : Rnd) (oa : Option Addr) (ca : Nat) (off : Int) (w : World) (hn : r.n ≤ 1000000) (hT : TabAt 1 Lib.deBruijn64tab w) (hw1 : 1 < w.heap.size) (hA : TrpsAt w oa r.n r.t) :
    Calls Tryd.prog 8 #[r.val oa ca, .int .i64 off] w fun e w' => e = .returned (.tuple #[.bool (r.fitsB off), .int .i64 (r.err off)]) ∧ Below w.heap.size w w' := by
  have HA := Lib.hid hA
  have HT := Lib.hid hT
  have HW1 := Lib.hid hw1
  clear hA hT hw1
  go_enter Tryd.func8, Tryd.ntmps8
  go_wp2_with fail
  have hb0 := below_alloc1 w (.cells #[.int .i64 r.nb, .int .i64 r.nm, .int .i64 r.most, .slice oa r.n ca] 29)
  have hB := Box.new (g := w.heap.size) #[.int .i64 r.nb, .int .i64 r.nm, .int .i64 r.most, .slice oa r.n ca] 29 w rfl
  obtain ⟨W, hW⟩ : ∃ X, X = w.alloc (.cells #[.int .i64 r.nb, .int .i64 r.nm, .int .i64 r.most, .slice oa r.n ca] 29) := ⟨_, rfl⟩
  rw [← hW] at hb0 hB ⊢
  clear hW
  obtain ⟨gr, hgr⟩ : ∃ G, G = w.heap.size := ⟨_, rfl⟩
  rw [← hgr] at hB ⊢
  clear hgr
  refine (check_any r oa ca off _ hn (HA.out.mono hb0)).mono ?_
  rintro e w1 ⟨rfl, hb1⟩
  have HB2 := Lib.hid (hB.below hb1)
  have HL := Lib.hid (hb0.trans (hb1.mono hb0.size))
  clear hB hb1 hb0
  by_cases he : r.err off = 0
  · rw [he]
    have HE := Lib.hid he
    have HV := Lib.hid (Rnd.err_zero he).1
    have HV14 := Lib.hid (Rnd.valid_head (Rnd.err_zero he).1).2.2.2
    have HF := Lib.hid (show r.fitsB off = okT (r.D off) by unfold Rnd.fitsB; rw [decide_eq_true he]; rfl)
    obtain ⟨TAB, hTAB⟩ : ∃ X, X = r.D off := ⟨_, rfl⟩
    have HTAB := Lib.hid (show r.tab off (2 ^ r.n - 1) = TAB from hTAB.symm)
    rw [← hTAB] at HF
    clear hTAB he
    go_wp2_with fail

    have hCC : ∀ A B : World, Below w1.heap.size w1 A → Below A.heap.size A B → Below w1.heap.size w1 B := fun A B h1 h2 => h1.trans (h2.mono h1.size)
    have hC0 : Below w1.heap.size w1 w1.drew := (Below.refl _ _).drew
    refine wp_region_garb (fun A => Below w1.heap.size w1 A) (by kernel_rfl) ?_
    (refine wpAnyG_take (i := 0) hCC hC0 rfl (by kernel_rfl) (by kernel_rfl) (by kernel_rfl) (fun _ _ _ _ h => h) (by rfl) ?_; apply Exists.intro; refine ⟨fun w1 h1 K hK => ?_, ?_⟩; · (have q0 : ∀ W : Aft w1, W.val.cell? ⟨gr, 0, none⟩ = some (.int .i64 r.nb) := fun W => (HB2.out.below (hCC _ _ h1 W.below)).cell 0 rfl; have q1 : ∀ W : Aft w1, W.val.cell? ⟨gr, 1, none⟩ = some (.int .i64 r.nm) := fun W => (HB2.out.below (hCC _ _ h1 W.below)).cell 1 rfl; have q2 : ∀ W : Aft w1, W.val.cell? ⟨gr, 2, none⟩ = some (.int .i64 r.most) := fun W => (HB2.out.below (hCC _ _ h1 W.below)).cell 2 rfl; have q3 : ∀ W : Aft w1, W.val.cell? ⟨gr, 3, none⟩ = some (.slice oa r.n ca) := fun W => (HB2.out.below (hCC _ _ h1 W.below)).cell 3 rfl; have q4 : ∀ W : Aft w1, gr < W.val.heap.size := fun W => (HB2.out.below (hCC _ _ h1 W.below)).lt; go_big_quiet_op; first | exact hK | fail))
    (refine wpAnyG_take (i := 1) hCC hC0 rfl (by kernel_rfl) (by kernel_rfl) (by kernel_rfl) (fun _ _ _ _ h => h) (by rfl) ?_; apply Exists.intro; refine ⟨fun w1 h1 K hK => ?_, ?_⟩; · ( go_big_quiet_op; first | exact hK | fail))
    (refine wpAnyG_take (i := 2) hCC hC0 rfl (by kernel_rfl) (by kernel_rfl) (by kernel_rfl) (fun _ _ _ _ h => h) (by rfl) ?_; apply Exists.intro; refine ⟨fun w1 h1 K hK => ?_, ?_⟩; · (have q0 : ∀ W : Aft w1, W.val.cell? ⟨gr, 0, none⟩ = some (.int .i64 r.nb) := fun W => (HB2.out.below (hCC _ _ h1 W.below)).cell 0 rfl; have q1 : ∀ W : Aft w1, W.val.cell? ⟨gr, 1, none⟩ = some (.int .i64 r.nm) := fun W => (HB2.out.below (hCC _ _ h1 W.below)).cell 1 rfl; have q2 : ∀ W : Aft w1, W.val.cell? ⟨gr, 2, none⟩ = some (.int .i64 r.most) := fun W => (HB2.out.below (hCC _ _ h1 W.below)).cell 2 rfl; have q3 : ∀ W : Aft w1, W.val.cell? ⟨gr, 3, none⟩ = some (.slice oa r.n ca) := fun W => (HB2.out.below (hCC _ _ h1 W.below)).cell 3 rfl; have q4 : ∀ W : Aft w1, gr < W.val.heap.size := fun W => (HB2.out.below (hCC _ _ h1 W.below)).lt; go_big_quiet_op; first | exact hK | fail))
    (refine wpAnyG_take (i := 3) hCC hC0 rfl (by kernel_rfl) (by kernel_rfl) (by kernel_rfl) (fun _ _ _ _ h => h) (by rfl) ?_; apply Exists.intro; refine ⟨fun w1 h1 K hK => ?_, ?_⟩; · ( go_big_quiet_op; first | exact hK | exact ⟨_, fun W => aft_call (all_any r oa ca _ HV14.out), hK⟩))
    (refine wpAnyG_take (i := 4) hCC hC0 rfl (by kernel_rfl) (by kernel_rfl) (by kernel_rfl) (fun _ _ _ _ h => h) (by rfl) ?_; apply Exists.intro; refine ⟨fun w1 h1 K hK => ?_, ?_⟩; · ( go_big_quiet_op; first | exact hK | exact ⟨_, fun W => aft_call (by have h9 := bnd_any r oa ca off (2 ^ r.n - 1) W.val HV.out (tab_below HT.out HW1.out (HL.out.trans ((hCC _ _ h1 W.below).mono HL.out.size))) (Nat.lt_of_lt_of_le HW1.out (HL.out.trans ((hCC _ _ h1 W.below).mono HL.out.size)).size) (HA.out.mono (HL.out.trans ((hCC _ _ h1 W.below).mono HL.out.size))) (two_pred r.n); rw [HTAB.out] at h9; exact h9), hK⟩))
    (refine wpAnyG_take (i := 5) hCC hC0 rfl (by kernel_rfl) (by kernel_rfl) (by kernel_rfl) (fun _ _ _ _ h => h) (by rfl) ?_; apply Exists.intro; refine ⟨fun w1 h1 K hK => ?_, ?_⟩; · ( go_big_quiet_op; first | exact hK | fail))
    (refine wpAnyG_take (i := 6) hCC hC0 rfl (by kernel_rfl) (by kernel_rfl) (by kernel_rfl) (fun _ _ _ _ h => h) (by rfl) ?_; apply Exists.intro; refine ⟨fun w1 h1 K hK => ?_, ?_⟩; · ( go_big_quiet_op; first | exact hK | fail))
    (refine wpAnyG_take (i := 7) hCC hC0 rfl (by kernel_rfl) (by kernel_rfl) (by kernel_rfl) (fun _ _ _ _ h => h) (by rfl) ?_; apply Exists.intro; refine ⟨fun w1 h1 K hK => ?_, ?_⟩; · ( go_big_quiet_op; first | exact hK | fail))
    (refine wpAnyG_one (i := 8) (by kernel_rfl) rfl (by rfl) (fun wa hwa K hK => ?_))
    go_simp
    refine hK _ _ ((hCC _ _ hC0 hwa).alloc (by have := hC0.size; have := hwa.size; omega) _) ?_
    clear hK K
    have s9 := Box.new (g := wa.heap.size) Tryd.zeroCells63 63 wa rfl
    have hC1 := (hCC _ _ hC0 hwa).alloc (by have := hC0.size; have := hwa.size; omega) (.cells Tryd.zeroCells63 63)
    have hg9 : w1.heap.size ≤ wa.heap.size := Nat.le_trans hC0.size hwa.size
    clear hwa
    obtain ⟨g9, hG⟩ : ∃ G, G = wa.heap.size := ⟨_, rfl⟩
    obtain ⟨wA, hWA⟩ : ∃ X, X = wa.alloc (.cells Tryd.zeroCells63 63) := ⟨_, rfl⟩
    rw [← hG] at s9 hg9 ⊢
    rw [← hWA] at s9 hC1 ⊢
    rw [z62] at s9
    clear hG hWA
    (refine wpAnyG_one (i := 9) (by kernel_rfl) rfl (by rfl) (fun wb hwb K hK => ?_))
    refine wp_store_box (s9.below hwb) rfl rfl rfl (by rw [cells13_size, cells13_size]) (by rw [cells13_size]; kernel_rfl) (cells13_one _) (fun wc s8 ho => ?_)
    dsimp only [Act.put]
    refine hK _ _ ((hCC _ _ hC1 hwb).trans (ho.below hg9)) ?_
    clear hK K
    have hC2 := (hCC _ _ hC1 hwb).trans (ho.below hg9)
    clear s9 hC1 ho hwb
    (refine wpAnyG_one (i := 10) (by kernel_rfl) rfl (by rfl) (fun wd hwd K hK => ?_))
    go_simp
    refine hK _ _ (hCC _ _ hC2 hwd) ?_
    clear hK K
    refine wpAnyG_done (by kernel_rfl) (fun wz hwz => ?_) _
    have HT9 := Lib.hid ((s8.below hwd).below hwz)
    have hz9 := hCC _ _ (hCC _ _ hC2 hwd) hwz
    clear s8 hC2 hwd hwz hC0 hCC
    have HL2 := Lib.hid (HL.out.trans (hz9.mono HL.out.size))
    clear hz9
    go_wp2_with fail
    refine bodyPost_ret (v := .tuple #[.bool (okT TAB), .int .i64 0]) (by simp [results, Tryd.results8, go_sem]) rfl ⟨by rw [HF.out, HE.out], HL2.out⟩
  · have HF := Lib.hid (show r.fitsB off = false by unfold Rnd.fitsB; rw [decide_eq_false he]; rfl)
    have hq : (r.err off != 0) = true := by simpa using he
    have hq2 : (r.err off == 0) = false := by simpa using he
    obtain ⟨er, her⟩ : ∃ x, x = r.err off := ⟨_, rfl⟩
    have HE := Lib.hid her
    rw [← her] at he hq hq2 ⊢
    clear her
    go_wp2
    refine bodyPost_ret (v := .tuple #[.bool false, .int .i64 er]) (by simp [results, Tryd.results8, go_sem]) rfl ⟨by rw [HF.out, HE.out], HL.out⟩
end Go.Proofs.YtlofopnjjeeehaaDoor
