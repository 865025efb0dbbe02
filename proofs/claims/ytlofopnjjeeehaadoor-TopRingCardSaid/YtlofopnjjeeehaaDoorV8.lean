/- Travel: ask (38) with both kinds of matters; Fault; Error. -/
import Derived.Test.YtlofopnjjeeehaaDoorV7
import Derived.Test.YtlofopnjjeeehaaDoorP2
namespace Go.Proofs.YtlofopnjjeeehaaDoor
open Go.RowKit
/-- what is told of a number: both ends, and the error -/
structure Tell where
  lo : Int
  hi : Int
  e : Int
abbrev Tell.val (t : Tell) : Value := .tuple #[.agg #[.int .i64 t.lo, .int .i64 t.hi], .int .i64 t.e]
/-- the ends that a table says -/
def tellD (D : T13) (k : Nat) (turn : Bool) : Tell := if D k 0 < 1099511627776 ∧ D 0 k < 1099511627776 then (if turn then ⟨-(D k 0), D 0 k, 0⟩ else ⟨-(D 0 k), D k 0, 0⟩) else ⟨0, 0, 4⟩
def Rnd.tell (r : Rnd) (off idx many : Int) (k : Nat) (turn : Bool) : Tell :=
  if r.err off ≠ 0 then ⟨0, 0, r.err off⟩ else if withinB idx 0 (many - 1) = false then ⟨0, 0, 2⟩ else if okT (r.D off) = false then ⟨0, 0, 6⟩ else tellD (r.D off) k turn
/-- both ends as span and turned return them, and what ask makes of them -/
def two44 (D : T13) (k : Nat) : Option Int × Option Int := (endO (D 0 k) (-1), endO (D k 0) 1)
def two40 (D : T13) (k : Nat) : Option Int × Option Int := turnO (endO (D 0 k) (-1)) (endO (D k 0) 1)
def tellO (o : Option Int × Option Int) : Tell := match o with
  | (some a, some b) => ⟨a, b, 0⟩
  | _ => ⟨0, 0, 4⟩
theorem tell44 (D : T13) (k : Nat) : tellO (two44 D k) = tellD D k false := by
  unfold two44 endO tellD
  by_cases h1 : D 0 k < 1099511627776 <;> by_cases h2 : D k 0 < 1099511627776 <;> simp [tellO, h1, h2]
theorem tell40 (D : T13) (k : Nat) : tellO (two40 D k) = tellD D k true := by
  unfold two40 endO tellD
  by_cases h1 : D 0 k < 1099511627776 <;> by_cases h2 : D k 0 < 1099511627776 <;> simp [tellO, turnO, h1, h2]
/-- results: a span in a cell, an error in a slot -/
theorem res33 {fn : Func} {p q : Tmp} (h : fn.results = #[.cell p 35, .tmp q]) (tmps : Array Value) (w : World) (g : Nat) (a b er : Int) (hp : tmps.getD p undef = .pointer (some ⟨g, 0, none⟩)) (hq : tmps.getD q undef = .int .i64 er) (hB : Box g #[.int .i64 a, .int .i64 b] 35 w) :
    (results fn tmps).run Tryd.prog w = .ok (Tell.val ⟨a, b, er⟩) w := by
  have hp' : tmps[p]?.getD undef = .pointer (some ⟨g, 0, none⟩) := by simpa using hp
  have hq' : tmps[q]?.getD undef = .int .i64 er := by simpa using hq
  have hl : (loadVar 35 ⟨g, 0, none⟩).run Tryd.prog w = .ok (.agg #[.int .i64 a, .int .i64 b]) w := run_loadVar_row (P := Tryd.prog) w g 35 35 #[.int .i64 a, .int .i64 b] (0, 0) (Option.getD (Tryd.prog.underlying 35) (.array 0 0)) hB.row (by kernel_rfl) (by kernel_rfl) (by kernel_rfl)
  unfold results
  simp only [h]
  simp [hp', hq', asAddr, hl]

set_option maxRecDepth 100000 in
set_option maxHeartbeats 8000000 in
theorem ask44_any (r : Rnd) (oa : Option Addr) (ca : Nat) (off idx many atv : Int) (k : Nat) (w : World) (hn : r.n ≤ 1000000) (hT : TabAt 1 Lib.deBruijn64tab w) (hw1 : 1 < w.heap.size) (hA : TrpsAt w oa r.n r.t)
    (hm : r.valid = true → 1 ≤ many ∧ many ≤ 6) (hat : r.valid = true → withinB idx 0 (many - 1) = true → atv = (k : Int) ∧ k < 13) :
    Calls Tryd.prog 18 #[r.val oa ca, .int .i64 off, .int .i64 idx, .int .i64 many, .int .i64 atv, .func (.func 20) #[] #[]] w fun e w' => e = .returned (r.tell off idx many k false).val ∧ Below w.heap.size w w' := by
  have HA := Lib.hid hA
  have HT := Lib.hid hT
  have HW1 := Lib.hid hw1
  have HM := Lib.hid hm
  have HAT := Lib.hid hat
  clear hA hT hw1 hm hat
  go_enter Tryd.func18, Tryd.ntmps18
  go_wp2_with fail
  have hb0 := (below_alloc1 w (.cells #[.int .i64 r.nb, .int .i64 r.nm, .int .i64 r.most, .slice oa r.n ca] 29)).alloc (by simp) (.cells #[.int .i64 0, .int .i64 0] 35)
  have hB := (Box.new (g := w.heap.size) #[.int .i64 r.nb, .int .i64 r.nm, .int .i64 r.most, .slice oa r.n ca] 29 w rfl).old (.cells #[.int .i64 0, .int .i64 0] 35)
  have hS := Box.new (g := w.heap.size + 1) #[.int .i64 0, .int .i64 0] 35 (w.alloc (.cells #[.int .i64 r.nb, .int .i64 r.nm, .int .i64 r.most, .slice oa r.n ca] 29)) (by simp)
  obtain ⟨W, hW⟩ : ∃ X, X = (w.alloc (.cells #[.int .i64 r.nb, .int .i64 r.nm, .int .i64 r.most, .slice oa r.n ca] 29)).alloc (.cells #[.int .i64 0, .int .i64 0] 35) := ⟨_, rfl⟩
  rw [← hW] at hb0 hB hS ⊢
  clear hW
  obtain ⟨gs, hgs⟩ : ∃ G, G = w.heap.size + 1 := ⟨_, rfl⟩
  rw [← hgs] at hS ⊢
  obtain ⟨gr, hgr⟩ : ∃ G, G = w.heap.size := ⟨_, rfl⟩
  rw [← hgr] at hB ⊢
  have HGS := Lib.hid (show w.heap.size ≤ gs by omega)
  clear hgr hgs
  refine (check_any r oa ca off _ hn (HA.out.mono hb0)).mono ?_
  rintro e w1 ⟨rfl, hb1⟩
  have HB2 := Lib.hid (hB.below hb1)
  have HS2 := Lib.hid (hS.below hb1)
  have HL := Lib.hid (hb0.trans (hb1.mono hb0.size))
  clear hB hb1 hb0 hS
  have c0 := HS2.out.cell 0 rfl
  have c1 := HS2.out.cell 1 rfl
  have f0 := HS2.out.frozen 0
  have f1 := HS2.out.frozen 1
  have l1 := HS2.out.lt
  by_cases he : r.err off = 0
  · rw [he]
    have hv := (Rnd.err_zero he).1
    have HE := Lib.hid he
    have HV := Lib.hid hv
    have HV14 := Lib.hid (Rnd.valid_head hv).2.2.2
    have hm1 := (HM.out hv).1
    have hm2 := (HM.out hv).2
    clear he hv
    rcases hi : withinB idx 0 (many - 1)
    · have HR := Lib.hid (show r.tell off idx many k false = ⟨0, 0, 2⟩ by unfold Rnd.tell; rw [if_neg (by rw [HE.out]; simp), if_pos hi])
      have HI := Lib.hid hi
      clear hi
      go_wp2_with fail
      refine (within_any _ _ _ _).mono ?_
      rintro e w2 ⟨rfl, rfl⟩
      rw [HI.out]
      go_wp2
      refine bodyPost_ret (res33 rfl _ _ gs 0 0 2 rfl rfl (HS2.out.set2 _ _)) rfl ⟨by rw [HR.out], (HL.out.setCell HGS.out _).setCell HGS.out _⟩
    · obtain ⟨hat, hk⟩ := HAT.out HV.out hi
      obtain rfl : atv = k := hat
      have HTL := Lib.hid (show r.tell off idx many k false = if okT (r.D off) = false then ⟨0, 0, 6⟩ else tellD (r.D off) k false by unfold Rnd.tell; rw [if_neg (by rw [HE.out]; simp), if_neg (by rw [hi]; simp)])
      have HI := Lib.hid hi
      obtain ⟨TAB, hTAB⟩ : ∃ X, X = r.D off := ⟨_, rfl⟩
      have HTAB := Lib.hid (show r.tab off (2 ^ r.n - 1) = TAB from hTAB.symm)
      have HCL := Lib.hid (show okT TAB = true → Cl TAB by rw [hTAB]; exact Rnd.D_cl HV.out)
      rw [← hTAB] at HTL
      clear hi hTAB HAT HM
      go_wp2_with fail
      refine (within_any _ _ _ _).mono ?_
      rintro e w2 ⟨rfl, rfl⟩
      rw [HI.out]
      clear c0 c1 f0 f1 l1
      go_wp2_with fail

      have hCC : ∀ A B : World, Below w1.heap.size w1 A → Below A.heap.size A B → Below w1.heap.size w1 B := fun A B h1 h2 => h1.trans (h2.mono h1.size)
      have hC0 : Below w1.heap.size w1 w1.drew := (Below.refl _ _).drew
      refine wp_region_garb (fun A => Below w1.heap.size w1 A) (by kernel_rfl) ?_
      (refine wpAnyG_take (i := 0) hCC hC0 rfl (by kernel_rfl) (by kernel_rfl) (by kernel_rfl) (fun _ _ _ _ h => h) (by rfl) ?_; apply Exists.intro; refine ⟨fun w1 h1 K hK => ?_, ?_⟩; · (have q0 : ∀ W : Aft w1, W.val.cell? ⟨gr, 0, none⟩ = some (.int .i64 r.nb) := fun W => (HB2.out.below (hCC _ _ h1 W.below)).cell 0 rfl; have q1 : ∀ W : Aft w1, W.val.cell? ⟨gr, 1, none⟩ = some (.int .i64 r.nm) := fun W => (HB2.out.below (hCC _ _ h1 W.below)).cell 1 rfl; have q2 : ∀ W : Aft w1, W.val.cell? ⟨gr, 2, none⟩ = some (.int .i64 r.most) := fun W => (HB2.out.below (hCC _ _ h1 W.below)).cell 2 rfl; have q3 : ∀ W : Aft w1, W.val.cell? ⟨gr, 3, none⟩ = some (.slice oa r.n ca) := fun W => (HB2.out.below (hCC _ _ h1 W.below)).cell 3 rfl; have q4 : ∀ W : Aft w1, gr < W.val.heap.size := fun W => (HB2.out.below (hCC _ _ h1 W.below)).lt; go_big_quiet_op; first | exact hK | fail))
      (refine wpAnyG_take (i := 1) hCC hC0 rfl (by kernel_rfl) (by kernel_rfl) (by kernel_rfl) (fun _ _ _ _ h => h) (by rfl) ?_; apply Exists.intro; refine ⟨fun w1 h1 K hK => ?_, ?_⟩; · ( go_big_quiet_op; first | exact hK | fail))
      (refine wpAnyG_take (i := 2) hCC hC0 rfl (by kernel_rfl) (by kernel_rfl) (by kernel_rfl) (fun _ _ _ _ h => h) (by rfl) ?_; apply Exists.intro; refine ⟨fun w1 h1 K hK => ?_, ?_⟩; · (have q0 : ∀ W : Aft w1, W.val.cell? ⟨gr, 0, none⟩ = some (.int .i64 r.nb) := fun W => (HB2.out.below (hCC _ _ h1 W.below)).cell 0 rfl; have q1 : ∀ W : Aft w1, W.val.cell? ⟨gr, 1, none⟩ = some (.int .i64 r.nm) := fun W => (HB2.out.below (hCC _ _ h1 W.below)).cell 1 rfl; have q2 : ∀ W : Aft w1, W.val.cell? ⟨gr, 2, none⟩ = some (.int .i64 r.most) := fun W => (HB2.out.below (hCC _ _ h1 W.below)).cell 2 rfl; have q3 : ∀ W : Aft w1, W.val.cell? ⟨gr, 3, none⟩ = some (.slice oa r.n ca) := fun W => (HB2.out.below (hCC _ _ h1 W.below)).cell 3 rfl; have q4 : ∀ W : Aft w1, gr < W.val.heap.size := fun W => (HB2.out.below (hCC _ _ h1 W.below)).lt; go_big_quiet_op; first | exact hK | fail))
      (refine wpAnyG_take (i := 3) hCC hC0 rfl (by kernel_rfl) (by kernel_rfl) (by kernel_rfl) (fun _ _ _ _ h => h) (by rfl) ?_; apply Exists.intro; refine ⟨fun w1 h1 K hK => ?_, ?_⟩; · ( go_big_quiet_op; first | exact hK | exact ⟨_, fun W => aft_call (all_any r oa ca _ HV14.out), hK⟩))
      (refine wpAnyG_take (i := 4) hCC hC0 rfl (by kernel_rfl) (by kernel_rfl) (by kernel_rfl) (fun _ _ _ _ h => h) (by rfl) ?_; apply Exists.intro; refine ⟨fun w1 h1 K hK => ?_, ?_⟩; · ( go_big_quiet_op; first | exact hK | exact ⟨_, fun W => aft_call (by have h9 := bnd_any r oa ca off (2 ^ r.n - 1) W.val HV.out (tab_below HT.out HW1.out (HL.out.trans ((hCC _ _ h1 W.below).mono HL.out.size))) (Nat.lt_of_lt_of_le HW1.out (HL.out.trans ((hCC _ _ h1 W.below).mono HL.out.size)).size) (HA.out.mono (HL.out.trans ((hCC _ _ h1 W.below).mono HL.out.size))) (two_pred r.n); rw [HTAB.out] at h9; exact h9), hK⟩))
      (refine wpAnyG_take (i := 5) hCC hC0 rfl (by kernel_rfl) (by kernel_rfl) (by kernel_rfl) (fun _ _ _ _ h => h) (by rfl) ?_; apply Exists.intro; refine ⟨fun w1 h1 K hK => ?_, ?_⟩; · ( go_big_quiet_op; first | exact hK | fail))
      (refine wpAnyG_take (i := 6) hCC hC0 rfl (by kernel_rfl) (by kernel_rfl) (by kernel_rfl) (fun _ _ _ _ h => h) (by rfl) ?_; apply Exists.intro; refine ⟨fun w1 h1 K hK => ?_, ?_⟩; · ( go_big_quiet_op; first | exact hK | fail))
      (refine wpAnyG_take (i := 7) hCC hC0 rfl (by kernel_rfl) (by kernel_rfl) (by kernel_rfl) (fun _ _ _ _ h => h) (by rfl) ?_; apply Exists.intro; refine ⟨fun w1 h1 K hK => ?_, ?_⟩; · ( go_big_quiet_op; first | exact hK | fail))
      (refine wpAnyG_one (i := 8) (by kernel_rfl) rfl (by rfl) (fun wa hwa K hK => ?_))
      go_simp
      refine hK _ _ ((hCC _ _ hC0 hwa).alloc (by have := hC0.size; have := hwa.size; omega) _) ?_
      clear hK K
      have s9 := Box.new (g := wa.heap.size) Tryd.zeroCells63 63 wa rfl
      have hC1 := (hCC _ _ hC0 hwa).alloc (by have := hC0.size; have := hwa.size; omega) (.cells Tryd.zeroCells63 63)
      have hg9 : w1.heap.size ≤ wa.heap.size := Nat.le_trans hC0.size hwa.size
      clear hwa
      obtain ⟨g9, hG⟩ : ∃ G, G = wa.heap.size := ⟨_, rfl⟩
      obtain ⟨wA, hWA⟩ : ∃ X, X = wa.alloc (.cells Tryd.zeroCells63 63) := ⟨_, rfl⟩
      rw [← hG] at s9 hg9 ⊢
      rw [← hWA] at s9 hC1 ⊢
      rw [z62] at s9
      clear hG hWA
      (refine wpAnyG_one (i := 9) (by kernel_rfl) rfl (by rfl) (fun wb hwb K hK => ?_))
      refine wp_store_box (s9.below hwb) rfl rfl rfl (by rw [cells13_size, cells13_size]) (by rw [cells13_size]; kernel_rfl) (cells13_one _) (fun wc s8 ho => ?_)
      dsimp only [Act.put]
      refine hK _ _ ((hCC _ _ hC1 hwb).trans (ho.below hg9)) ?_
      clear hK K
      have hC2 := (hCC _ _ hC1 hwb).trans (ho.below hg9)
      clear s9 hC1 ho hwb
      (refine wpAnyG_one (i := 10) (by kernel_rfl) rfl (by rfl) (fun wd hwd K hK => ?_))
      go_simp
      refine hK _ _ (hCC _ _ hC2 hwd) ?_
      clear hK K
      refine wpAnyG_done (by kernel_rfl) (fun wz hwz => ?_) _
      have HT9 := Lib.hid ((s8.below hwd).below hwz)
      have hz9 := hCC _ _ (hCC _ _ hC2 hwd) hwz
      clear s8 hC2 hwd hwz hC0 hCC
      have HL2 := Lib.hid (HL.out.trans (hz9.mono HL.out.size))
      have HS3 := Lib.hid (HS2.out.below hz9)
      have HSZ := Lib.hid HS3.out.lt
      clear hz9 HS2
      have c0 := HS3.out.cell 0 rfl
      have c1 := HS3.out.cell 1 rfl
      have f0 := HS3.out.frozen 0
      have f1 := HS3.out.frozen 1
      have l1 := HS3.out.lt
      rcases ho : okT TAB
      · have HR := Lib.hid (show r.tell off idx many k false = ⟨0, 0, 6⟩ by rw [HTL.out, if_pos ho])
        clear ho
        go_wp2
        refine bodyPost_ret (res33 rfl _ _ gs 0 0 6 rfl rfl (HS3.out.set2 _ _)) rfl ⟨by rw [HR.out], (HL2.out.setCell HGS.out _).setCell HGS.out _⟩
      · have HR := Lib.hid (show r.tell off idx many k false = tellO (two44 TAB k) by rw [HTL.out, if_neg (by rw [ho]; simp), tell44])
        have HC9 := Lib.hid (HCL.out ho)
        clear ho HCL HTL
        clear c0 c1 f0 f1 l1
        go_wp2_with fail
        refine (span_any TAB k many g9 _ hk HC9.out.small HT9.out).mono ?_
        rintro e wx ⟨v1, v2, rfl, he1, he2, hbx⟩
        have HL4 := Lib.hid (HL2.out.trans (hbx.mono HL2.out.size))
        have HS4 := Lib.hid (HS3.out.below hbx)
        have HR9 := Lib.hid (show tellO (two44 TAB k) = tellO ((two44 TAB k).1, (two44 TAB k).2) from rfl)
        clear hbx HS3 HL2
        have he1 : EndAt (two44 TAB k).1 v1 _ wx := he1
        have he2 : EndAt (two44 TAB k).2 v2 _ wx := he2
        have c0 := HS4.out.cell 0 rfl
        have c1 := HS4.out.cell 1 rfl
        have f0 := HS4.out.frozen 0
        have f1 := HS4.out.frozen 1
        have l1 := HS4.out.lt
        obtain ⟨o1, ho1⟩ : ∃ o, o = (two44 TAB k).1 := ⟨_, rfl⟩
        obtain ⟨o2, ho2⟩ : ∃ o, o = (two44 TAB k).2 := ⟨_, rfl⟩
        rw [← ho1] at he1
        rw [← ho2] at he2
        have HR8 := Lib.hid (show r.tell off idx many k false = tellO (o1, o2) by rw [HR.out, HR9.out, ← ho1, ← ho2])
        clear ho1 ho2 HR HR9
        rcases o1 with _ | a
        · obtain rfl : v1 = .pointer none := he1
          rcases o2 with _ | b
          · obtain rfl : v2 = .pointer none := he2
            go_wp2
            refine bodyPost_ret (res33 rfl _ _ gs 0 0 4 rfl rfl (HS4.out.set2 _ _)) rfl ⟨by rw [HR8.out]; rfl, (HL4.out.setCell HGS.out _).setCell HGS.out _⟩
          · obtain ⟨p, rfl, hp, hbx⟩ := he2
            go_wp2
            refine bodyPost_ret (res33 rfl _ _ gs 0 0 4 rfl rfl (HS4.out.set2 _ _)) rfl ⟨by rw [HR8.out]; rfl, (HL4.out.setCell HGS.out _).setCell HGS.out _⟩
        · obtain ⟨p, rfl, hp, hbx⟩ := he1
          rcases o2 with _ | b
          · obtain rfl : v2 = .pointer none := he2
            go_wp2
            refine bodyPost_ret (res33 rfl _ _ gs 0 0 4 rfl rfl (HS4.out.set2 _ _)) rfl ⟨by rw [HR8.out]; rfl, (HL4.out.setCell HGS.out _).setCell HGS.out _⟩
          · obtain ⟨q, rfl, hq, hby⟩ := he2
            have HBX := Lib.hid hbx
            have HBY := Lib.hid hby
            clear hbx hby c0 c1 f0 f1 l1
            go_wp2_with fail
            have hP0 : ∀ A B : World, Below wx.heap.size wx A → Below A.heap.size A B → Below wx.heap.size wx B := fun A B h1 h2 => h1.trans (h2.mono h1.size)
            have hP1 : ∀ A B : World, But gs wx A → Below A.heap.size A B → But gs wx B := fun _ _ h1 h2 => h1.trans_below h2
            have hP01 : ∀ A : World, Below wx.heap.size wx A → But gs wx A := fun _ h1 => But.of_below h1
            have hC0 : Below wx.heap.size wx wx.drew := (Below.refl _ _).drew
            have HPG := Lib.hid (show p ≠ gs by have := HSZ.out; omega)
            have HQG := Lib.hid (show q ≠ gs by have := HSZ.out; omega)
            refine wp_region_phase 7 (fun A => Below wx.heap.size wx A) (fun A => But gs wx A) (by kernel_rfl) ?_
            (refine wpAnyP_take1 (i := 0) hP0 hP1 hP01 hC0 (by decide) rfl (by kernel_rfl) (by kernel_rfl) (by kernel_rfl) (fun _ _ _ _ h => h) (by rfl) ?_; apply Exists.intro; refine ⟨fun w1 h1 K hK => ?_, ?_⟩; · ( go_big_quiet_op; first | exact hK | fail))
            (refine wpAnyP_take1 (i := 1) hP0 hP1 hP01 hC0 (by decide) rfl (by kernel_rfl) (by kernel_rfl) (by kernel_rfl) (fun _ _ _ _ h => h) (by rfl) ?_; apply Exists.intro; refine ⟨fun w1 h1 K hK => ?_, ?_⟩; · ( go_big_quiet_op; first | exact hK | fail))
            (refine wpAnyP_take1 (i := 2) hP0 hP1 hP01 hC0 (by decide) rfl (by kernel_rfl) (by kernel_rfl) (by kernel_rfl) (fun _ _ _ _ h => h) (by rfl) ?_; apply Exists.intro; refine ⟨fun w1 h1 K hK => ?_, ?_⟩; · (have q0 : ∀ W : Aft w1, W.val.cell? ⟨p, 0, none⟩ = some (.int .i64 a) := fun W => ((hP1 _ _ h1 W.below).box HBX.out HPG.out).cell 0 rfl; go_big_quiet_op; first | exact hK | fail))
            (refine wpAnyP_take1 (i := 3) hP0 hP1 hP01 hC0 (by decide) rfl (by kernel_rfl) (by kernel_rfl) (by kernel_rfl) (fun _ _ _ _ h => h) (by rfl) ?_; apply Exists.intro; refine ⟨fun w1 h1 K hK => ?_, ?_⟩; · ( go_big_quiet_op; first | exact hK | fail))
            (refine wpAnyP_take1 (i := 4) hP0 hP1 hP01 hC0 (by decide) rfl (by kernel_rfl) (by kernel_rfl) (by kernel_rfl) (fun _ _ _ _ h => h) (by rfl) ?_; apply Exists.intro; refine ⟨fun w1 h1 K hK => ?_, ?_⟩; · ( go_big_quiet_op; first | exact hK | fail))
            (refine wpAnyP_take1 (i := 5) hP0 hP1 hP01 hC0 (by decide) rfl (by kernel_rfl) (by kernel_rfl) (by kernel_rfl) (fun _ _ _ _ h => h) (by rfl) ?_; apply Exists.intro; refine ⟨fun w1 h1 K hK => ?_, ?_⟩; · (have q0 : ∀ W : Aft w1, W.val.cell? ⟨q, 0, none⟩ = some (.int .i64 b) := fun W => ((hP1 _ _ h1 W.below).box HBY.out HQG.out).cell 0 rfl; go_big_quiet_op; first | exact hK | fail))
            (refine wpAnyP_take0 (i := 6) hP0 hP1 hC0 (by decide) (by rfl) rfl (by kernel_rfl) rfl (by kernel_rfl) (by kernel_rfl) (by kernel_rfl) (fun _ _ _ _ h => h) (by rfl) ?_; apply Exists.intro; refine ⟨fun w1 h1 K hK => ?_, ?_⟩; · ( go_big_quiet_op; first | exact hK | fail))
            (refine wpAnyP_one (i := 7) (by kernel_rfl) rfl (by rfl) (fun wa hwa K hK => ?_))
            have hA := hP0 _ _ hC0 hwa
            refine wp_store_box (HS4.out.below hA) rfl rfl rfl rfl (by kernel_rfl) (by simp [Value.oneCell']) (fun wb zs ho => ?_); dsimp only [Act.put]
            have hB9 : But gs wx wb := (But.of_below hA).trans ⟨ho.os, ho.tape, ho.output, Nat.le_of_eq ho.size.symm, fun k9 _ hne => ho.block k9 hne⟩
            refine hK _ _ hB9 ?_
            clear hK K
            (refine wpAnyP_one (i := 8) (by kernel_rfl) rfl (by rfl) (fun wc hwc K hK => ?_))
            go_simp
            refine hK _ _ (hB9.trans_below hwc) ?_
            clear hK K
            refine wpAnyP_done (by kernel_rfl) (fun we hwe => ?_) _
            have HZ := Lib.hid ((zs.below hwc).below hwe)
            have HZB := Lib.hid (((hB9.trans_below hwc).trans_below hwe).below HGS.out HL4.out HL4.out.size)
            clear hP0 hP1 hP01 hC0 hwa hA zs ho hB9 hwc hwe
            go_wp2_with fail
            refine bodyPost_ret (res33 rfl _ _ gs a b 0 rfl rfl HZ.out) rfl ⟨by rw [HR8.out]; rfl, HZB.out⟩
  · have HR := Lib.hid (show r.tell off idx many k false = ⟨0, 0, r.err off⟩ by unfold Rnd.tell; rw [if_pos he])
    have hq : (r.err off != 0) = true := by simpa using he
    have hq2 : (r.err off == 0) = false := by simpa using he
    obtain ⟨er, her⟩ : ∃ x, x = r.err off := ⟨_, rfl⟩
    rw [← her] at he hq hq2 HR ⊢
    clear her
    go_wp2
    refine bodyPost_ret (res33 rfl _ _ gs 0 0 er rfl rfl (HS2.out.set2 _ _)) rfl ⟨by rw [HR.out], (HL.out.setCell HGS.out _).setCell HGS.out _⟩
end Go.Proofs.YtlofopnjjeeehaaDoor
