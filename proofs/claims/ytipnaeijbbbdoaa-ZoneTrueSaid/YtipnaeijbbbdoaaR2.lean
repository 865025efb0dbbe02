/- Zone, the document's side: Own, Leaks, the sum of spans. -/
import Derived.Test.YtipnaeijbbbdoaaR1
import Derived.Test.YtipnaeijbbbdoaaP5
namespace Go.Proofs.Ytipnaeijbbbdoaa
open Go.RowKit
theorem sumL_bd2 {f : Nat → Int} {B : Int} : ∀ {l : List Nat}, (∀ c ∈ l, -B ≤ f c ∧ f c ≤ B) → -((l.length : Int) * B) ≤ sumL f l ∧ sumL f l ≤ (l.length : Int) * B
  | [], _ => by simp [sumL]
  | a :: l, h => by
    have h1 := sumL_bd2 (f := f) (B := B) (l := l) fun c hc => h c (by simp [hc])
    have h2 := h a (by simp)
    have h3 : ((a :: l).length : Int) * B = (l.length : Int) * B + B := by simp [Int.add_mul]
    rw [sumL_cons]; omega
theorem sumB_bd {f : Nat → Int} {but : Int} {l : List Nat} (hl : l.length ≤ 12) (h : ∀ c ∈ l, -1099511627776 ≤ f c ∧ f c ≤ 1099511627776) : -13194139533312 ≤ sumB f l but ∧ sumB f l but ≤ 13194139533312 := by
  unfold sumB
  have h1 := sumL_bd2 (f := f) (B := 1099511627776) (l := l.filter fun c => decide ((c : Int) ≠ but)) fun c hc => h c (List.mem_filter.1 hc).1
  have h2 := List.length_filter_le (fun c : Nat => decide ((c : Int) ≠ but)) l
  omega
theorem take_snoc {l : List Nat} {k : Nat} (h : k < l.length) : l.take (k + 1) = l.take k ++ [l.getD k 0] := by
  rw [List.take_add_one]; congr 1
  have : l[k]? = some (l.getD k 0) := by rw [List.getD_eq_getElem?_getD, List.getElem?_eq_getElem h]; rfl
  rw [this]; rfl
theorem getD_mem {l : List Nat} {k : Nat} (h : k < l.length) : l.getD k 0 ∈ l := by
  rw [List.getD_eq_getElem?_getD, List.getElem?_eq_getElem h]; exact List.getElem_mem h
set_option maxRecDepth 100000 in
set_option maxHeartbeats 8000000 in
theorem dsum_any (oS oP : Option Addr) (n cS cP : Nat) (s : Nat → Spn) (l : List Nat) (but : Int) (w : World) (hl : l.length ≤ 12) (hS : SpnsAt w oS n s) (hP : IntsAt w oP l.length (fun j => ((l.getD j 0 : Nat) : Int))) (hln : ∀ c ∈ l, c < n)
    (hb : ∀ c ∈ l, (-1099511627776 ≤ (s c).lo ∧ (s c).lo ≤ 1099511627776) ∧ (-1099511627776 ≤ (s c).hi ∧ (s c).hi ≤ 1099511627776)) :
    Calls Try.prog 65 #[.slice oS n cS, .slice oP l.length cP, .int .i64 but] w fun e w' => e = .returned (.agg #[.int .i64 (sumB (fun c => (s c).lo) l but), .int .i64 (sumB (fun c => (s c).hi) l but)]) ∧ Below w.heap.size w w' := by
  have HS := Lib.hid (fun (V : World) (hV : Below w.heap.size w V) => hS.mono hV)
  have HP := Lib.hid (fun (V : World) (hV : Below w.heap.size w V) => hP.mono hV)
  have HLN := Lib.hid hln
  have HBB := Lib.hid hb
  have HLEN := Lib.hid hl
  clear hS hP hln hb
  go_enter Try.func65, Try.ntmps65
  go_upto_region 2 with fail
  have hb0 := (below_alloc1 w (.cells #[.int .i64 0, .int .i64 0] 41)).alloc (by simp) (.cells #[.int .i64 0, .int .i64 0] 41)
  have h6 := (Box.new (g := w.heap.size) #[.int .i64 0, .int .i64 0] 41 w rfl).old (.cells #[.int .i64 0, .int .i64 0] 41)
  have h7 := Box.new (g := w.heap.size + 1) #[.int .i64 0, .int .i64 0] 41 (w.alloc (.cells #[.int .i64 0, .int .i64 0] 41)) (by simp)
  obtain ⟨W, hW⟩ : ∃ X, X = (w.alloc (.cells #[.int .i64 0, .int .i64 0] 41)).alloc (.cells #[.int .i64 0, .int .i64 0] 41) := ⟨_, rfl⟩
  rw [← hW] at hb0 h6 h7 ⊢
  clear hW
  obtain ⟨g7, hg7⟩ : ∃ G, G = w.heap.size + 1 := ⟨_, rfl⟩
  rw [← hg7] at h7 ⊢
  obtain ⟨g6, hg6⟩ : ∃ G, G = w.heap.size := ⟨_, rfl⟩
  rw [← hg6] at h6 ⊢
  have HG := Lib.hid (show w.heap.size ≤ g6 ∧ w.heap.size ≤ g7 ∧ g6 ≠ g7 by omega)
  have HL := Lib.hid hb0
  have H6 := Lib.hid h6
  have H7 := Lib.hid h7
  clear hg6 hg7 hb0 h6 h7
  obtain ⟨M, hM⟩ : ∃ M, M = l.length := ⟨_, rfl⟩
  rw [← hM] at HP HLEN hl ⊢
  have HM := Lib.hid hM
  clear hM
  go_wp2_with fail
  go_loopw [8] (fun v8 wr => ∃ k : Nat, k ≤ M ∧ v8 = .int .i64 k ∧ Hid (Box g6 #[.int .i64 0, .int .i64 0] 41 wr) ∧ Hid (Box g7 #[.int .i64 (sumB (fun c => (s c).lo) (l.take k) but), .int .i64 (sumB (fun c => (s c).hi) (l.take k) but)] 41 wr) ∧ Hid (Below w.heap.size w wr)) (fun v8 _ => M - (intOf v8).toNat)
  case atStart => exact ⟨0, Nat.zero_le _, rfl, H6, H7, HL⟩
  case round =>
    clear HL H6 H7
    obtain ⟨k, hk, rfl, H6, H7, HL⟩ := hrel
    by_cases hlt : k < M
    · have hkl : k < l.length := by have := HM.out; omega
      obtain ⟨bp, op, hop, hlp, p0⟩ := (HP.out _ HL.out) k (by have := HM.out; omega)
      subst hop
      have HMEM := Lib.hid (getD_mem hkl)
      have hcn := HLN.out _ HMEM.out
      have hcb := HBB.out _ HMEM.out
      obtain ⟨bs, os, hos, -⟩ := (HS.out _ HL.out) _ hcn
      subst hos
      have hk0 : (0 : Int) ≤ (k : Int) := by omega
      have hk1 : (k : Int) < (M : Int) := by omega
      have HTK := Lib.hid (take_snoc hkl)
      have HSF := Lib.hid (show ∀ V, Below w.heap.size w V → bs < V.heap.size ∧ V.cell? ⟨bs, os + (l.getD k 0) * 2, none⟩ = some (.int .i64 (s (l.getD k 0)).lo) ∧ V.cell? ⟨bs, os + (l.getD k 0) * 2 + 1, none⟩ = some (.int .i64 (s (l.getD k 0)).hi) from fun V hV => by
        obtain ⟨b9, o9, e9, h1, h2, h3⟩ := (HS.out V hV) _ hcn
        cases e9
        exact ⟨h1, h2, h3⟩)
      have HPF := Lib.hid (show ∀ V, Below w.heap.size w V → bp < V.heap.size ∧ V.cell? ⟨bp, op + k, none⟩ = some (.int .i64 (l.getD k 0 : Nat)) from fun V hV => by
        obtain ⟨b9, o9, e9, h1, h2⟩ := (HP.out V hV) k (by have := HM.out; omega)
        cases e9
        exact ⟨h1, h2⟩)
      have HT1 := Lib.hid (sumB_bd (f := fun c => (s c).lo) (but := but) (l := l.take k) (by simp; have := HLEN.out; have := HM.out; omega) fun c hc => (HBB.out c (List.mem_of_mem_take hc)).1)
      have HT2 := Lib.hid (sumB_bd (f := fun c => (s c).hi) (but := but) (l := l.take k) (by simp; have := HLEN.out; have := HM.out; omega) fun c hc => (HBB.out c (List.mem_of_mem_take hc)).2)
      obtain ⟨c, hc⟩ : ∃ c, c = l.getD k 0 := ⟨_, rfl⟩
      simp only at p0
      rw [← hc] at p0 hcn hcb HSF HPF HTK
      clear hc HMEM
      have c0 : (0 : Int) ≤ (c : Int) := by omega
      have c1 : (c : Int) < (n : Int) := by omega
      by_cases hbc : (c : Int) = but
      · have hbb : ((c : Int) != but) = false := by simpa using hbc
        have H72 := Lib.hid (show Box g7 #[.int .i64 (sumB (fun c => (s c).lo) (l.take (k + 1)) but), .int .i64 (sumB (fun c => (s c).hi) (l.take (k + 1)) but)] 41 wr by rw [HTK.out, sumB_snoc_no hbc, sumB_snoc_no hbc]; exact H7.out)
        clear hbc
        go_wp2_with fail
        go_roundw
        case rel => exact ⟨k + 1, by omega, by go_num, H6, H72, HL⟩
        case measure => simp [intOf]; omega
      · have hbb : ((c : Int) != but) = true := by simpa using hbc
        have HX1 := Lib.hid (show sumB (fun c => (s c).lo) (l.take (k + 1)) but = sumB (fun c => (s c).lo) (l.take k) but + (s c).lo by rw [HTK.out, sumB_snoc_yes hbc])
        have HX2 := Lib.hid (show sumB (fun c => (s c).hi) (l.take (k + 1)) but = sumB (fun c => (s c).hi) (l.take k) but + (s c).hi by rw [HTK.out, sumB_snoc_yes hbc])
        obtain ⟨sl, hsl⟩ : ∃ x, x = sumB (fun c => (s c).lo) (l.take k) but := ⟨_, rfl⟩
        obtain ⟨sh, hsh⟩ : ∃ x, x = sumB (fun c => (s c).hi) (l.take k) but := ⟨_, rfl⟩
        rw [← hsl] at HX1 HT1 H7
        rw [← hsh] at HX2 HT2 H7
        obtain ⟨D, hD⟩ : ∃ D, D = s c := ⟨_, rfl⟩
        rw [← hD] at HX1 HX2 HSF hcb
        clear hsl hsh hD hbc
        obtain ⟨dlo, dhi⟩ := D
        simp only at HX1 HX2 HSF hcb
        obtain ⟨⟨y1, y2⟩, y3, y4⟩ := hcb
        obtain ⟨z1, z2⟩ := HT1.out
        obtain ⟨z3, z4⟩ := HT2.out
        go_upto_region 6 with fail
        clear p0 hlp
        have hP0 : ∀ A B : World, Below wr.heap.size wr A → Below A.heap.size A B → Below wr.heap.size wr B := fun A B h1 h2 => h1.trans (h2.mono h1.size)
        have hP1 : ∀ A B : World, g7 < A.heap.size → Below A.heap.size A B → g7 < B.heap.size := fun _ _ h1 h2 => Nat.lt_of_lt_of_le h1 h2.size
        have hP01 : ∀ A : World, Below wr.heap.size wr A → g7 < A.heap.size := fun _ h1 => Nat.lt_of_lt_of_le H7.out.lt h1.size
        have hC0 : Below wr.heap.size wr wr.drew := (Below.refl _ _).drew
        refine wp_region_phase 23 (fun A => Below wr.heap.size wr A) (fun A => g7 < A.heap.size) (by kernel_rfl) ?_
        (refine wpAnyP_take0 (i := 0) hP0 hP1 hC0 (by decide) (by rfl) rfl (by kernel_rfl) rfl (by kernel_rfl) (by kernel_rfl) (by kernel_rfl) (fun _ _ _ _ h => h) (by rfl) ?_; apply Exists.intro; refine ⟨fun w1 h1 K hK => ?_, ?_⟩; · (have q9 : ∀ V : Aft w1, g7 < V.val.heap.size := fun V => (H7.out.below (hP0 _ _ h1 V.below)).lt; go_big_quiet_op; first | exact hK | fail))
        (refine wpAnyP_take0 (i := 1) hP0 hP1 hC0 (by decide) (by rfl) rfl (by kernel_rfl) rfl (by kernel_rfl) (by kernel_rfl) (by kernel_rfl) (fun _ _ _ _ h => h) (by rfl) ?_; apply Exists.intro; refine ⟨fun w1 h1 K hK => ?_, ?_⟩; · (have q9 : ∀ V : Aft w1, V.val.cell? ⟨g7, 0, none⟩ = some (.int .i64 sl) := fun V => (H7.out.below (hP0 _ _ h1 V.below)).cell 0 rfl; go_big_quiet_op; first | exact hK | fail))
        (refine wpAnyP_take0 (i := 2) hP0 hP1 hC0 (by decide) (by rfl) rfl (by kernel_rfl) rfl (by kernel_rfl) (by kernel_rfl) (by kernel_rfl) (fun _ _ _ _ h => h) (by rfl) ?_; apply Exists.intro; refine ⟨fun w1 h1 K hK => ?_, ?_⟩; · ( go_big_quiet_op; first | exact hK | fail))
        (refine wpAnyP_take0 (i := 3) hP0 hP1 hC0 (by decide) (by rfl) rfl (by kernel_rfl) rfl (by kernel_rfl) (by kernel_rfl) (by kernel_rfl) (fun _ _ _ _ h => h) (by rfl) ?_; apply Exists.intro; refine ⟨fun w1 h1 K hK => ?_, ?_⟩; · ( go_big_quiet_op; first | exact hK | fail))
        (refine wpAnyP_take0 (i := 4) hP0 hP1 hC0 (by decide) (by rfl) rfl (by kernel_rfl) rfl (by kernel_rfl) (by kernel_rfl) (by kernel_rfl) (fun _ _ _ _ h => h) (by rfl) ?_; apply Exists.intro; refine ⟨fun w1 h1 K hK => ?_, ?_⟩; · ( go_big_quiet_op; first | exact hK | fail))
        (refine wpAnyP_take0 (i := 5) hP0 hP1 hC0 (by decide) (by rfl) rfl (by kernel_rfl) rfl (by kernel_rfl) (by kernel_rfl) (by kernel_rfl) (fun _ _ _ _ h => h) (by rfl) ?_; apply Exists.intro; refine ⟨fun w1 h1 K hK => ?_, ?_⟩; · ( go_big_quiet_op; first | exact hK | fail))
        (refine wpAnyP_take0 (i := 6) hP0 hP1 hC0 (by decide) (by rfl) rfl (by kernel_rfl) rfl (by kernel_rfl) (by kernel_rfl) (by kernel_rfl) (fun _ _ _ _ h => h) (by rfl) ?_; apply Exists.intro; refine ⟨fun w1 h1 K hK => ?_, ?_⟩; · (have q8 : ∀ V : Aft w1, V.val.cell? ⟨bp, op + k, none⟩ = some (.int .i64 (c : Nat)) := fun V => (HPF.out V.val (HL.out.trans ((hP0 _ _ h1 V.below).mono HL.out.size))).2; have q9 : ∀ V : Aft w1, bp < V.val.heap.size := fun V => (HPF.out V.val (HL.out.trans ((hP0 _ _ h1 V.below).mono HL.out.size))).1; go_big_quiet_op; first | exact hK | fail))
        (refine wpAnyP_take0 (i := 7) hP0 hP1 hC0 (by decide) (by rfl) rfl (by kernel_rfl) rfl (by kernel_rfl) (by kernel_rfl) (by kernel_rfl) (fun _ _ _ _ h => h) (by rfl) ?_; apply Exists.intro; refine ⟨fun w1 h1 K hK => ?_, ?_⟩; · ( go_big_quiet_op; first | exact hK | fail))
        (refine wpAnyP_take0 (i := 8) hP0 hP1 hC0 (by decide) (by rfl) rfl (by kernel_rfl) rfl (by kernel_rfl) (by kernel_rfl) (by kernel_rfl) (fun _ _ _ _ h => h) (by rfl) ?_; apply Exists.intro; refine ⟨fun w1 h1 K hK => ?_, ?_⟩; · (have q9 : ∀ V : Aft w1, bs < V.val.heap.size := fun V => (HSF.out V.val (HL.out.trans ((hP0 _ _ h1 V.below).mono HL.out.size))).1; go_big_quiet_op; first | exact hK | fail))
        (refine wpAnyP_take0 (i := 9) hP0 hP1 hC0 (by decide) (by rfl) rfl (by kernel_rfl) rfl (by kernel_rfl) (by kernel_rfl) (by kernel_rfl) (fun _ _ _ _ h => h) (by rfl) ?_; apply Exists.intro; refine ⟨fun w1 h1 K hK => ?_, ?_⟩; · (have q9 : ∀ V : Aft w1, V.val.cell? ⟨bs, os + c * 2, none⟩ = some (.int .i64 dlo) := fun V => (HSF.out V.val (HL.out.trans ((hP0 _ _ h1 V.below).mono HL.out.size))).2.1; go_big_quiet_op; first | exact hK | fail))
        (refine wpAnyP_take0 (i := 10) hP0 hP1 hC0 (by decide) (by rfl) rfl (by kernel_rfl) rfl (by kernel_rfl) (by kernel_rfl) (by kernel_rfl) (fun _ _ _ _ h => h) (by rfl) ?_; apply Exists.intro; refine ⟨fun w1 h1 K hK => ?_, ?_⟩; · ( go_big_quiet_op; first | exact hK | fail))
        (refine wpAnyP_take0 (i := 11) hP0 hP1 hC0 (by decide) (by rfl) rfl (by kernel_rfl) rfl (by kernel_rfl) (by kernel_rfl) (by kernel_rfl) (fun _ _ _ _ h => h) (by rfl) ?_; apply Exists.intro; refine ⟨fun w1 h1 K hK => ?_, ?_⟩; · (have q9 : ∀ V : Aft w1, g7 < V.val.heap.size := fun V => (H7.out.below (hP0 _ _ h1 V.below)).lt; go_big_quiet_op; first | exact hK | fail))
        (refine wpAnyP_take0 (i := 12) hP0 hP1 hC0 (by decide) (by rfl) rfl (by kernel_rfl) rfl (by kernel_rfl) (by kernel_rfl) (by kernel_rfl) (fun _ _ _ _ h => h) (by rfl) ?_; apply Exists.intro; refine ⟨fun w1 h1 K hK => ?_, ?_⟩; · (have q9 : ∀ V : Aft w1, V.val.cell? ⟨g7, 1, none⟩ = some (.int .i64 sh) := fun V => (H7.out.below (hP0 _ _ h1 V.below)).cell 1 rfl; go_big_quiet_op; first | exact hK | fail))
        (refine wpAnyP_take0 (i := 13) hP0 hP1 hC0 (by decide) (by rfl) rfl (by kernel_rfl) rfl (by kernel_rfl) (by kernel_rfl) (by kernel_rfl) (fun _ _ _ _ h => h) (by rfl) ?_; apply Exists.intro; refine ⟨fun w1 h1 K hK => ?_, ?_⟩; · ( go_big_quiet_op; first | exact hK | fail))
        (refine wpAnyP_take0 (i := 14) hP0 hP1 hC0 (by decide) (by rfl) rfl (by kernel_rfl) rfl (by kernel_rfl) (by kernel_rfl) (by kernel_rfl) (fun _ _ _ _ h => h) (by rfl) ?_; apply Exists.intro; refine ⟨fun w1 h1 K hK => ?_, ?_⟩; · ( go_big_quiet_op; first | exact hK | fail))
        (refine wpAnyP_take0 (i := 15) hP0 hP1 hC0 (by decide) (by rfl) rfl (by kernel_rfl) rfl (by kernel_rfl) (by kernel_rfl) (by kernel_rfl) (fun _ _ _ _ h => h) (by rfl) ?_; apply Exists.intro; refine ⟨fun w1 h1 K hK => ?_, ?_⟩; · ( go_big_quiet_op; first | exact hK | fail))
        (refine wpAnyP_take0 (i := 16) hP0 hP1 hC0 (by decide) (by rfl) rfl (by kernel_rfl) rfl (by kernel_rfl) (by kernel_rfl) (by kernel_rfl) (fun _ _ _ _ h => h) (by rfl) ?_; apply Exists.intro; refine ⟨fun w1 h1 K hK => ?_, ?_⟩; · ( go_big_quiet_op; first | exact hK | fail))
        (refine wpAnyP_take0 (i := 17) hP0 hP1 hC0 (by decide) (by rfl) rfl (by kernel_rfl) rfl (by kernel_rfl) (by kernel_rfl) (by kernel_rfl) (fun _ _ _ _ h => h) (by rfl) ?_; apply Exists.intro; refine ⟨fun w1 h1 K hK => ?_, ?_⟩; · (have q8 : ∀ V : Aft w1, V.val.cell? ⟨bp, op + k, none⟩ = some (.int .i64 (c : Nat)) := fun V => (HPF.out V.val (HL.out.trans ((hP0 _ _ h1 V.below).mono HL.out.size))).2; have q9 : ∀ V : Aft w1, bp < V.val.heap.size := fun V => (HPF.out V.val (HL.out.trans ((hP0 _ _ h1 V.below).mono HL.out.size))).1; go_big_quiet_op; first | exact hK | fail))
        (refine wpAnyP_take0 (i := 18) hP0 hP1 hC0 (by decide) (by rfl) rfl (by kernel_rfl) rfl (by kernel_rfl) (by kernel_rfl) (by kernel_rfl) (fun _ _ _ _ h => h) (by rfl) ?_; apply Exists.intro; refine ⟨fun w1 h1 K hK => ?_, ?_⟩; · ( go_big_quiet_op; first | exact hK | fail))
        (refine wpAnyP_take0 (i := 19) hP0 hP1 hC0 (by decide) (by rfl) rfl (by kernel_rfl) rfl (by kernel_rfl) (by kernel_rfl) (by kernel_rfl) (fun _ _ _ _ h => h) (by rfl) ?_; apply Exists.intro; refine ⟨fun w1 h1 K hK => ?_, ?_⟩; · (have q9 : ∀ V : Aft w1, bs < V.val.heap.size := fun V => (HSF.out V.val (HL.out.trans ((hP0 _ _ h1 V.below).mono HL.out.size))).1; go_big_quiet_op; first | exact hK | fail))
        (refine wpAnyP_take0 (i := 20) hP0 hP1 hC0 (by decide) (by rfl) rfl (by kernel_rfl) rfl (by kernel_rfl) (by kernel_rfl) (by kernel_rfl) (fun _ _ _ _ h => h) (by rfl) ?_; apply Exists.intro; refine ⟨fun w1 h1 K hK => ?_, ?_⟩; · (have q9 : ∀ V : Aft w1, V.val.cell? ⟨bs, os + c * 2 + 1, none⟩ = some (.int .i64 dhi) := fun V => (HSF.out V.val (HL.out.trans ((hP0 _ _ h1 V.below).mono HL.out.size))).2.2; go_big_quiet_op; first | exact hK | fail))
        (refine wpAnyP_take0 (i := 21) hP0 hP1 hC0 (by decide) (by rfl) rfl (by kernel_rfl) rfl (by kernel_rfl) (by kernel_rfl) (by kernel_rfl) (fun _ _ _ _ h => h) (by rfl) ?_; apply Exists.intro; refine ⟨fun w1 h1 K hK => ?_, ?_⟩; · ( go_big_quiet_op; first | exact hK | fail))
        (refine wpAnyP_take0 (i := 22) hP0 hP1 hC0 (by decide) (by rfl) rfl (by kernel_rfl) rfl (by kernel_rfl) (by kernel_rfl) (by kernel_rfl) (fun _ _ _ _ h => h) (by rfl) ?_; apply Exists.intro; refine ⟨fun w1 h1 K hK => ?_, ?_⟩; · ( go_big_quiet_op; first | exact hK | fail))
        (refine wpAnyP_one (i := 23) (by kernel_rfl) rfl (by rfl) (fun wa hwa K hK => ?_))
        have hA1 := hP0 _ _ hC0 hwa
        refine wp_store_box (H7.out.below hA1) rfl rfl rfl rfl (by kernel_rfl) (by simp [Value.oneCell']) (fun wb zs ho => ?_); dsimp only [Act.put]
        have hLb : Below w.heap.size w wb := (HL.out.trans (hA1.mono HL.out.size)).trans (ho.below HG.out.2.1)
        refine hK _ _ zs.lt ?_
        clear hK K
        refine wpAnyP_done (by kernel_rfl) (fun wz hwz => ?_) _
        have H62 := Lib.hid ((ho.box (H6.out.below hA1) HG.out.2.2).below hwz)
        have H72 := Lib.hid (show Box g7 #[.int .i64 (sumB (fun c => (s c).lo) (l.take (k + 1)) but), .int .i64 (sumB (fun c => (s c).hi) (l.take (k + 1)) but)] 41 wz by rw [HX1.out, HX2.out]; exact zs.below hwz)
        have HL2 := Lib.hid (hLb.trans (hwz.mono hLb.size))
        clear hP0 hP1 hP01 hC0 hwa hA1 zs ho hLb hwz H7 H6 HL HSF HPF hbb
        go_wp2_with fail
        go_roundw
        case rel => exact ⟨k + 1, by omega, by go_num, H62, H72, HL2⟩
        case measure => simp [intOf]; omega
    · have hkm : k = l.length := by have := HM.out; omega
      have HT := Lib.hid (show l.take k = l by rw [hkm, List.take_length])
      rw [HT.out] at H7
      have hkn : M = k := by omega
      subst hkn
      obtain ⟨sl, hsl⟩ : ∃ x, x = sumB (fun c => (s c).lo) l but := ⟨_, rfl⟩
      obtain ⟨sh, hsh⟩ : ∃ x, x = sumB (fun c => (s c).hi) l but := ⟨_, rfl⟩
      rw [← hsl, ← hsh] at H7
      have HSL := Lib.hid hsl
      have HSH := Lib.hid hsh
      clear hsl hsh hkm
      have a0 := H7.out.cell 0 (v := .int .i64 sl) rfl
      have a1 := H7.out.cell 1 (v := .int .i64 sh) rfl
      have a2 := H7.out.lt
      have b0 := H6.out.cell 0 (v := .int .i64 0) rfl
      have b1 := H6.out.cell 1 (v := .int .i64 0) rfl
      have f0 := H6.out.frozen 0
      have f1 := H6.out.frozen 1
      have b2 := H6.out.lt
      go_wp2_with fail
      refine bodyPost_ret (res41 rfl _ _ g6 _ _ rfl (H6.out.set2 (.int .i64 sl) (.int .i64 sh))) rfl ⟨by rw [HSL.out, HSH.out], ((HL.out.setCell (p := ⟨g6, 0, none⟩) HG.out.1 (.int .i64 sl)).setCell (p := ⟨g6, 1, none⟩) HG.out.1 (.int .i64 sh))⟩
set_option maxRecDepth 100000 in
set_option maxHeartbeats 8000000 in
theorem down_own_any (oa : Option Addr) (n ca : Nat) (z : Nat → Zon) (w : World) (hn : n ≤ 1000000) (hA : ZonsAt w oa n z) :
    Calls Try.prog 12 #[.slice oa n ca] w (OwnP n z w) := by
  have HA := Lib.hid hA
  have HLI := Lib.hid (zones_any oa n ca z w hn hA)
  clear hA
  go_enter Try.func12, Try.ntmps12
  go_wp2_with fail
  refine HLI.out.mono ?_
  rintro e w1 ⟨rfl, hb1⟩
  have HB1 := Lib.hid hb1
  clear hb1 HLI
  cases hlb : listB n z
  · have HLB := Lib.hid hlb
    clear hlb
    go_wp2_with fail
    refine bodyPost_ret (v := .tuple #[.slice none 0 0, .int .i64 1]) (by simp [results, Try.results12, go_sem]) rfl ⟨HB1.out, .inl ⟨HLB.out, rfl⟩⟩
  · have HLB := Lib.hid hlb
    obtain ⟨hn1, hn2, -, hok⟩ := listB_spec hlb
    have HOK := Lib.hid hok
    clear hlb hok
    obtain ⟨iR, hiR, hzR0, hzR1, hzR2⟩ := info_parts (P := Try.prog) (e := 41) (z := .agg #[.int .i64 0, .int .i64 0]) (size := 2) (bytes := 16) (by kernel_rfl)
    have HIR := Lib.hid hiR
    have HZR := Lib.hid (And.intro hzR0 (And.intro hzR1 hzR2))
    clear hiR hzR0 hzR1 hzR2
    go_wp2_with fail
    go_loopw [4, 5] (fun v4 v5 wr => ∃ m : Nat, m ≤ n ∧ v5 = .int .i64 m ∧ Hid (wr.ownsRow w.heap.size 41 2 v4 m (spanNews m (fun j => ownS (z j)))) ∧ Hid (Below w.heap.size w wr)) (fun _ v5 _ => n - (intOf v5).toNat)
    case atStart => exact ⟨0, Nat.zero_le _, rfl, Lib.hid owns_none, HB1⟩
    case round =>
      obtain ⟨m, hm, rfl, HOW, HL⟩ := hrel
      by_cases hlt : m < n
      · obtain ⟨b, off, hoa, hl, c0, c1, c2, c3, c4, c5, c6, c7, c8⟩ := (HA.out.mono HL.out) m hlt
        subst hoa
        have HSN := Lib.hid (show spanNews m (fun j => ownS (z j)) ++ [.int .i64 (ownS (z m)).lo, .int .i64 (ownS (z m)).hi] = spanNews (m + 1) (fun j => ownS (z j)) from (pair_news_succ _ _ _).symm)
        have HOS := Lib.hid (show ownS (z m) = if (z m).own.lo ≤ (z m).own.hi then (z m).own else ⟨1, 0⟩ from rfl)
        have HO1 := Lib.hid (fun (V : World) => own1_any (z m) V (HOK.out m hlt))
        have hown := HOW.out
        obtain ⟨oL, cL, rfl, -⟩ := owns_form hown
        obtain ⟨xs, hxs⟩ : ∃ l, l = spanNews m (fun j => ownS (z j)) := ⟨_, rfl⟩
        obtain ⟨ys, hys⟩ : ∃ l, l = spanNews (m + 1) (fun j => ownS (z j)) := ⟨_, rfl⟩
        rw [← hxs] at hown HOW HSN
        rw [← hys] at HSN
        have HYS := Lib.hid hys
        clear hxs hys
        obtain ⟨sx, hsx⟩ : ∃ s, s = ownS (z m) := ⟨_, rfl⟩
        rw [← hsx] at HSN HOS
        clear hsx
        obtain ⟨ox, hox⟩ : ∃ s, s = (z m).own := ⟨_, rfl⟩
        rw [← hox] at HOS HO1
        clear hox
        obtain ⟨Z, hZ⟩ : ∃ Z, Z = z m := ⟨_, rfl⟩
        rw [← hZ] at c0 c1 c2 c3 c4 c5 c6 c7 c8 HO1
        clear hZ
        obtain ⟨⟨ilo, ihi⟩, ⟨mlo, mhi⟩, ⟨elo, ehi⟩, ⟨llo, lhi⟩, p⟩ := Z
        simp only at c0 c1 c2 c3 c4 c5 c6 c7 c8
        have hk0 : (0 : Int) ≤ (m : Int) := by omega
        have hk1 : (m : Int) < (n : Int) := by omega
        have HOW2 := Lib.hid hown
        clear hown HOW hlt
        go_wp2_with fail
        refine (HO1.out _).mono ?_
        rintro e w3 ⟨rfl, hb3⟩
        replace HOW2 := Lib.hid (owns_below HOW2.out hb3)
        replace HL := Lib.hid (HL.out.trans (hb3.mono HL.out.size))
        clear hb3 c0 c1 c2 c3 c4 c5 c6 c7 c8 HO1 hl
        obtain ⟨olo, ohi⟩ := ox
        simp only at HOS
        go_upto_region 8 with fail
        have hbl := below_alloc1 w3 (.cells #[.int .i64 olo, .int .i64 ohi] 41)
        have hbx := Box.new (g := w3.heap.size) #[.int .i64 olo, .int .i64 ohi] 41 w3 rfl
        obtain ⟨gs, hG⟩ : ∃ G, G = w3.heap.size := ⟨_, rfl⟩
        obtain ⟨w4, hW⟩ : ∃ X, X = w3.alloc (.cells #[.int .i64 olo, .int .i64 ohi] 41) := ⟨_, rfl⟩
        rw [← hW] at hbl hbx ⊢
        rw [← hG] at hbx ⊢
        have HGS := Lib.hid (show w.heap.size ≤ gs by have := HL.out.size; omega)
        have HGN := Lib.hid (show ∀ b9, (Value.slice oL m cL).ownBlock = some b9 → b9 ≠ gs from fun b9 e9 => by have := (HOW2.out.lt b9 e9).2; omega)
        replace HOW2 := Lib.hid (owns_below HOW2.out hbl)
        replace HL := Lib.hid (HL.out.trans (hbl.mono HL.out.size))
        have HBS := Lib.hid hbx
        clear hbl hbx hW hG w3
        have s0 := HBS.out.cell 0 (v := .int .i64 olo) rfl
        have s1 := HBS.out.cell 1 (v := .int .i64 ohi) rfl
        have s2 := HBS.out.frozen 0
        have s3 := HBS.out.frozen 1
        have s4 := HBS.out.lt
        by_cases hle : olo ≤ ohi
        · have HS9 := Lib.hid (show sx = ⟨olo, ohi⟩ by rw [HOS.out, if_pos hle])
          have hd : decide (olo ≤ ohi) = true := decide_eq_true hle
          have hd2 : decide (ohi < olo) = false := decide_eq_false (by omega)
          clear HOS
          go_upto_region 10 with fail
          obtain ⟨slo, hslo⟩ : ∃ x, x = olo := ⟨_, rfl⟩
          obtain ⟨shi, hshi⟩ : ∃ x, x = ohi := ⟨_, rfl⟩
          rw [← hslo, ← hshi] at HS9 HBS
          clear hslo hshi s0 s1 s2 s3 s4 hle
          have s0 := HBS.out.cell 0 (v := .int .i64 slo) rfl
          have s1 := HBS.out.cell 1 (v := .int .i64 shi) rfl
          have s4 := HBS.out.lt
          have hwsz := HL.out.size
          rw [HS9.out] at HSN
          simp only at HSN
          clear HS9
          go_wp2_with (at_builtin; refine wpList_append_gen rfl (.tmp 28) (.tmp 30) _ rfl w.heap.size 41 iR _ 2 16 Try.underlying24 HIR.out HZR.out.1 HZR.out.2.1 HZR.out.2.2 rfl (by omega) (.slice oL m cL) m xs rfl (some ⟨w4.heap.size, 0, none⟩) 1 1 [.int .i64 slo, .int .i64 shi] rfl (HOW2.out.alloc _) (fun e9 => by cases e9) rfl (fun ad9 e9 j9 u9 hu9 => by cases e9; exact news_blk2 (e := 41) (heap_new rfl) hu9) (by simp [Value.oneCell']) (by simp only [maxLen]; omega) (by omega) (by simp; omega) ?_; intro vS wS hownS hgrowS)
          have hbS : Below w.heap.size w wS := (HL.out.alloc HL.out.size _).trans (below_row HOW2.out hgrowS HL.out.size)
          rw [HSN.out, HYS.out] at hownS
          have HO2 := Lib.hid hownS
          have HL2 := Lib.hid hbS
          clear hownS hbS hgrowS s0 s1 s4
          go_wp2_with fail
          go_roundw
          case rel => exact ⟨m + 1, by omega, by go_num, HO2, HL2⟩
          case measure => simp [intOf]; omega
        · have HS9 := Lib.hid (show sx = ⟨1, 0⟩ by rw [HOS.out, if_neg hle])
          have hd : decide (olo ≤ ohi) = false := decide_eq_false hle
          have hd2 : decide (ohi < olo) = true := decide_eq_true (by omega)
          have hgt : ohi < olo := by omega
          clear HOS hle
          go_upto_region 10 with fail
          clear s0 s1 s2 s3 s4
          replace HOW2 := Lib.hid (owns_set (i := 1) (u := .int .i64 0) (owns_set (i := 0) (u := .int .i64 1) HOW2.out HGN.out) HGN.out)
          replace HBS := Lib.hid (HBS.out.set2 (.int .i64 1) (.int .i64 0))
          replace HL := Lib.hid ((HL.out.setCell (p := ⟨gs, 0, none⟩) HGS.out (.int .i64 1)).setCell (p := ⟨gs, 1, none⟩) HGS.out (.int .i64 0))
          obtain ⟨w5, hW⟩ : ∃ X, X = (w4.setCell ⟨gs, 0, none⟩ (.int .i64 1)).setCell ⟨gs, 1, none⟩ (.int .i64 0) := ⟨_, rfl⟩
          rw [← hW] at HOW2 HBS HL ⊢
          clear hW
          obtain ⟨slo, hslo⟩ : ∃ x : Int, x = 1 := ⟨_, rfl⟩
          obtain ⟨shi, hshi⟩ : ∃ x : Int, x = 0 := ⟨_, rfl⟩
          replace HBS := Lib.hid (show Box gs #[.int .i64 slo, .int .i64 shi] 41 w5 by rw [hslo, hshi]; exact HBS.out)
          replace HS9 := Lib.hid (show sx = ⟨slo, shi⟩ by rw [hslo, hshi]; exact HS9.out)
          clear hslo hshi w4
          obtain ⟨w4, rfl⟩ : ∃ X, X = w5 := ⟨_, rfl⟩
          have s0 := HBS.out.cell 0 (v := .int .i64 slo) rfl
          have s1 := HBS.out.cell 1 (v := .int .i64 shi) rfl
          have s4 := HBS.out.lt
          have hwsz := HL.out.size
          rw [HS9.out] at HSN
          simp only at HSN
          clear HS9
          go_wp2_with (at_builtin; refine wpList_append_gen rfl (.tmp 28) (.tmp 30) _ rfl w.heap.size 41 iR _ 2 16 Try.underlying24 HIR.out HZR.out.1 HZR.out.2.1 HZR.out.2.2 rfl (by omega) (.slice oL m cL) m xs rfl (some ⟨w4.heap.size, 0, none⟩) 1 1 [.int .i64 slo, .int .i64 shi] rfl (HOW2.out.alloc _) (fun e9 => by cases e9) rfl (fun ad9 e9 j9 u9 hu9 => by cases e9; exact news_blk2 (e := 41) (heap_new rfl) hu9) (by simp [Value.oneCell']) (by simp only [maxLen]; omega) (by omega) (by simp; omega) ?_; intro vS wS hownS hgrowS)
          have hbS : Below w.heap.size w wS := (HL.out.alloc HL.out.size _).trans (below_row HOW2.out hgrowS HL.out.size)
          rw [HSN.out, HYS.out] at hownS
          have HO2 := Lib.hid hownS
          have HL2 := Lib.hid hbS
          clear hownS hbS hgrowS s0 s1 s4
          go_wp2_with fail
          go_roundw
          case rel => exact ⟨m + 1, by omega, by go_num, HO2, HL2⟩
          case measure => simp [intOf]; omega
      · obtain rfl : m = n := by omega
        obtain ⟨oL, cL, rfl, hsp, hba⟩ := owns_spans HOW.out
        have H1 := Lib.hid hsp
        have H2 := Lib.hid hba
        clear hsp hba
        go_wp2_with fail
        refine bodyPost_ret (v := .tuple #[.slice oL m cL, .int .i64 0]) (by simp [results, Try.results12, go_sem]) rfl ⟨HL.out, .inr ⟨HLB.out, oL, cL, rfl, H1.out, H2.out⟩⟩
end Go.Proofs.Ytipnaeijbbbdoaa
