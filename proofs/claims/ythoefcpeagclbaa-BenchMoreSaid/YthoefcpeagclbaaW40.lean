/- A truth by remainders: pick, draw, truth. -/
import Derived.Test.YthoefcpeagclbaaP10
import Derived.Test.YthoefcpeagclbaaGarb2
import Derived.Test.YthoefcpeagclbaaArgs
namespace Go.Proofs.Ythoefcpeagclbaa
open Go.RowKit
set_option maxRecDepth 100000 in
set_option maxHeartbeats 2000000 in
theorem pick_any (s : Spn) (q : Nat) (w : World) (hq : q < 4294967296) (h : s.lo ≤ s.hi) (hb : -1000000000000000 ≤ s.lo ∧ s.hi ≤ 1000000000000000) :
    Calls Try.prog 26 #[s.val, .int .u32 (q : Nat)] w fun e w' => e = .returned (.int .i64 (pickV s q)) ∧ Below w.heap.size w w' := by
  have HP := Lib.hid (pick_in h q)
  obtain ⟨r, hr⟩ : ∃ r : Int, r = (q : Int) % (s.hi - s.lo + 1) := ⟨_, rfl⟩
  have HE := Lib.hid (show pickV s q = s.lo + r by rw [hr]; rfl)
  have hp := HP.out
  rw [HE.out] at hp
  have hr2 := hr.symm
  clear hr
  have hd0 : s.hi - s.lo + 1 ≠ 0 := by omega
  go_enter Try.func26, Try.ntmps26
  go_wp2_with fail
  have HB := Box.new (g := w.heap.size) #[.int .i64 s.lo, .int .i64 s.hi] 24 w rfl
  have hbw := below_alloc1 w (.cells #[.int .i64 s.lo, .int .i64 s.hi] 24)
  obtain ⟨W, hW⟩ : ∃ X, X = w.alloc (.cells #[.int .i64 s.lo, .int .i64 s.hi] 24) := ⟨_, rfl⟩
  rw [← hW] at HB hbw ⊢
  clear hW
  have s0 := HB.cell 0 rfl
  have s1 := HB.cell 1 rfl
  simp only [List.getElem_toArray, List.getElem_cons_zero, List.getElem_cons_succ] at s0 s1
  clear HB
  go_big_quiet (fail)
  go_wp2_with fail
  go_ret
  exact ⟨ret_int (by rw [HE.out]), below_drewN hbw nq⟩
theorem span_al (a b : Int) (w : World) :
    Calls Try.prog 31 #[.int .i64 a, .int .i64 b] w fun e w' => e = .returned (Spn.val ⟨a, b⟩) ∧ Below w.heap.size w w' := by
  go_enter Try.func31, Try.ntmps31
  go_wp2
  refine bodyPost_ret (v := .agg #[.int .i64 a, .int .i64 b]) (by simp [results, Try.results31, go_sem]) rfl ⟨rfl, (by repeat' (first | exact Below.refl _ _ | assumption | apply below_drewN | apply Below.drew | (refine Below.alloc ?_ ?_ _) | (refine Below.setCell ?_ ?_ _) | (simp; done) | (simp; omega) | omega))⟩
/-- nothing that existed has changed but one box, which now holds z -/
structure Zed (zb : Nat) (z : Nat) (w w' : World) : Prop where
  os : w'.os = w.os
  tape : w'.tape = w.tape
  output : w'.output = w.output
  size : w.heap.size ≤ w'.heap.size
  block : ∀ k, k < w.heap.size → k ≠ zb → w'.heap[k]? = w.heap[k]?
  box : Box zb #[.int .i64 (z : Nat)] 3 w'
theorem Zed.old {zb z g : Nat} {w w' : World} {cs : Array Value} {t : TypeId} (h : Zed zb z w w') (hb : Box g cs t w) (hne : g ≠ zb) : Box g cs t w' := ⟨(h.block g hb.lt hne).trans hb.row⟩
theorem Zed.two {zb z : Nat} {W w w' : World} (h : Zed zb z w w') (h2 : Two zb zb W w) : Two zb zb W w' :=
  ⟨Nat.le_trans h2.size h.size, fun k hk h1 _ => (h.block k (Nat.lt_of_lt_of_le hk h2.size) h1).trans (h2.block k hk h1 h1)⟩
theorem Zed.below {zb z B : Nat} {w w' : World} (h : Zed zb z w w') (hB : B ≤ zb) (hs : B ≤ w.heap.size) : Below B w w' := ⟨h.os, h.tape, h.output, h.size, fun k hk => h.block k (by omega) (by omega)⟩
set_option maxRecDepth 100000 in
set_option maxHeartbeats 2000000 in
theorem draw_any (s : Spn) (zb kb j : Nat) (ka : Option Addr) (kn kc : Nat) (q : Nat → Nat) (w : World) (h : s.lo ≤ s.hi) (hb : -1000000000000000 ≤ s.lo ∧ s.hi ≤ 1000000000000000) (hj : j ≤ 1000) (hkn : 0 < kn) (hkn2 : kn ≤ 9223372036854775807)
    (hZ : Box zb #[.int .i64 (j : Nat)] 3 w) (hK : Box kb #[.slice ka kn kc] 46 w) (hne : kb ≠ zb) (hQ : U32sAt w ka kn q) (hqz : ∀ a, ka = some a → a.block ≠ zb) :
    Calls Try.prog 51 #[s.val, .pointer (some ⟨zb, 0, none⟩), .pointer (some ⟨kb, 0, none⟩)] w fun e w' => e = .returned (.int .i64 (pickV s (q ((j + 1) % kn)))) ∧ Zed zb (j + 1) w w' := by
  have HZ := Lib.hid hZ
  have HK := Lib.hid hK
  have HQ := Lib.hid hQ
  have HQZ := Lib.hid hqz
  have zl := hZ.lt
  have z0 := hZ.cell 0 rfl
  have z1 := hZ.frozen 0
  simp only [List.getElem_toArray, List.getElem_cons_zero] at z0
  clear hZ hK hQ hqz
  go_enter Try.func51, Try.ntmps51
  go_wp2_with fail
  have KS := Box.new (g := w.heap.size) #[.int .i64 s.lo, .int .i64 s.hi] 24 (w.setCell ⟨zb, 0, none⟩ (.int .i64 ((j : Int) + 1))) (by simp)
  have KK := (HK.out.other (g' := zb) hne 0 (.int .i64 ((j : Int) + 1))).old (.cells #[.int .i64 s.lo, .int .i64 s.hi] 24)
  have KZ := (HZ.out.set 0 (.int .i64 ((j : Int) + 1))).old (.cells #[.int .i64 s.lo, .int .i64 s.hi] 24)
  obtain ⟨J, hJ⟩ : ∃ J, J = j + 1 := ⟨_, rfl⟩
  have KZ2 : Box zb #[.int .i64 (J : Nat)] 3 ((w.setCell ⟨zb, 0, none⟩ (.int .i64 ((j : Int) + 1))).alloc (.cells #[.int .i64 s.lo, .int .i64 s.hi] 24)) := by
    rw [show ((J : Nat) : Int) = (j : Int) + 1 by omega]; exact KZ
  have hsz : ((w.setCell ⟨zb, 0, none⟩ (.int .i64 ((j : Int) + 1))).alloc (.cells #[.int .i64 s.lo, .int .i64 s.hi] 24)).heap.size = w.heap.size + 1 := by simp
  have HO := Lib.hid (show Zed zb J w ((w.setCell ⟨zb, 0, none⟩ (.int .i64 ((j : Int) + 1))).alloc (.cells #[.int .i64 s.lo, .int .i64 s.hi] 24)) from
    ⟨rfl, rfl, rfl, by omega, fun k hk hk2 => (Below.heap_alloc _ _ _ (by simpa using hk)).trans (Below.heap_setCell w ⟨zb, 0, none⟩ _ k hk2), KZ2⟩)
  obtain ⟨i, hi⟩ : ∃ i, i = J % kn := ⟨_, rfl⟩
  have hik : i < kn := by rw [hi]; exact Nat.mod_lt _ hkn
  have HI := Lib.hid (show (j + 1) % kn = i by rw [hi, hJ])
  have hmk : (J : Int) % (kn : Int) = (i : Int) := by rw [hi]; simp
  have hmk2 : (J : Int).tmod (kn : Int) = (i : Int) := by rw [Int.tmod_eq_emod_of_nonneg (by omega)]; exact hmk
  have HJ := Lib.hid hJ
  obtain ⟨hq9, qb, qo, rfl, hlt1, u0⟩ := HQ.out i hik
  have hqz9 := HQZ.out _ rfl
  have u1 : ((w.setCell ⟨zb, 0, none⟩ (.int .i64 ((j : Int) + 1))).alloc (.cells #[.int .i64 s.lo, .int .i64 s.hi] 24)).cell? ⟨qb, qo + i, none⟩ = some (.int .u32 (q i : Nat)) :=
    (World.cell?_of_block (w := w) (HO.out.block qb hlt1 hqz9)).trans u0
  have hql : qb < ((w.setCell ⟨zb, 0, none⟩ (.int .i64 ((j : Int) + 1))).alloc (.cells #[.int .i64 s.lo, .int .i64 s.hi] 24)).heap.size := by omega
  obtain ⟨W, hW⟩ : ∃ X, X = (w.setCell ⟨zb, 0, none⟩ (.int .i64 ((j : Int) + 1))).alloc (.cells #[.int .i64 s.lo, .int .i64 s.hi] 24) := ⟨_, rfl⟩
  rw [← hW] at KS KK KZ2 HO hsz u1 hql ⊢
  clear hW hi hJ KZ z0 z1 u0
  have LS := Lib.hid KS
  have LK := Lib.hid KK
  have LZ := Lib.hid KZ2
  clear KS KK KZ2
  have hCC : ∀ A B : World, Below W.heap.size W A → Below A.heap.size A B → Below W.heap.size W B := fun A B h1 h2 => h1.trans (h2.mono h1.size)
  have hC0 : Below W.heap.size W W.drew := (Below.refl _ _).drew
  refine wp_region_garb (Below W.heap.size W) (by kernel_rfl) ?_
  (refine wpAnyG_take (i := 0) hCC hC0 rfl (by kernel_rfl) (by kernel_rfl) (by kernel_rfl) (fun _ _ _ _ h => h) (by rfl) ?_; apply Exists.intro; refine ⟨fun w1 h1 K hK => ?_, ?_⟩; · (have f := fun W9 : Aft w1 => LS.out.below (hCC _ _ h1 W9.below); have f0 : ∀ W : Aft w1, W.val.cell? ⟨w.heap.size, 0, none⟩ = some (.int .i64 s.lo) := fun W => (f W).cell 0 rfl; have f1 : ∀ W : Aft w1, W.val.cell? ⟨w.heap.size, 1, none⟩ = some (.int .i64 s.hi) := fun W => (f W).cell 1 rfl; go_big_quiet_op; first | exact hK | fail))
  (refine wpAnyG_take (i := 1) hCC hC0 rfl (by kernel_rfl) (by kernel_rfl) (by kernel_rfl) (fun _ _ _ _ h => h) (by rfl) ?_; apply Exists.intro; refine ⟨fun w1 h1 K hK => ?_, ?_⟩; · (have f0 : ∀ W : Aft w1, W.val.cell? ⟨kb, 0, none⟩ = some (.slice (some ⟨qb, qo, none⟩) kn kc) := fun W9 => (LK.out.below (hCC _ _ h1 W9.below)).cell 0 rfl; go_big_quiet_op; first | exact hK | fail))
  (refine wpAnyG_take (i := 2) hCC hC0 rfl (by kernel_rfl) (by kernel_rfl) (by kernel_rfl) (fun _ _ _ _ h => h) (by rfl) ?_; apply Exists.intro; refine ⟨fun w1 h1 K hK => ?_, ?_⟩; · (have f0 : ∀ W : Aft w1, W.val.cell? ⟨zb, 0, none⟩ = some (.int .i64 (J : Nat)) := fun W9 => (LZ.out.below (hCC _ _ h1 W9.below)).cell 0 rfl; go_big_quiet_op; first | exact hK | fail))
  (refine wpAnyG_take (i := 3) hCC hC0 rfl (by kernel_rfl) (by kernel_rfl) (by kernel_rfl) (fun _ _ _ _ h => h) (by rfl) ?_; apply Exists.intro; refine ⟨fun w1 h1 K hK => ?_, ?_⟩; · (have f0 : ∀ W : Aft w1, W.val.cell? ⟨kb, 0, none⟩ = some (.slice (some ⟨qb, qo, none⟩) kn kc) := fun W9 => (LK.out.below (hCC _ _ h1 W9.below)).cell 0 rfl; go_big_quiet_op; first | exact hK | fail))
  (refine wpAnyG_take (i := 4) hCC hC0 rfl (by kernel_rfl) (by kernel_rfl) (by kernel_rfl) (fun _ _ _ _ h => h) (by rfl) ?_; apply Exists.intro; refine ⟨fun w1 h1 K hK => ?_, ?_⟩; · ( go_big_quiet_op; first | exact hK | fail))
  (refine wpAnyG_take (i := 5) hCC hC0 rfl (by kernel_rfl) (by kernel_rfl) (by kernel_rfl) (fun _ _ _ _ h => h) (by rfl) ?_; apply Exists.intro; refine ⟨fun w1 h1 K hK => ?_, ?_⟩; · (have hd0 : ((kn : Nat) : Int) ≠ 0 := (by omega); go_big_quiet_op; first | exact hK | fail))
  (refine wpAnyG_take (i := 6) hCC hC0 rfl (by kernel_rfl) (by kernel_rfl) (by kernel_rfl) (fun _ _ _ _ h => h) (by rfl) ?_; apply Exists.intro; refine ⟨fun w1 h1 K hK => ?_, ?_⟩; · (have hx0 : (0 : Int) ≤ (i : Int) := (by omega); have hx1 : (i : Int) < (kn : Int) := (by omega); go_big_quiet_op; first | exact hK | fail))
  (refine wpAnyG_take (i := 7) hCC hC0 rfl (by kernel_rfl) (by kernel_rfl) (by kernel_rfl) (fun _ _ _ _ h => h) (by rfl) ?_; apply Exists.intro; refine ⟨fun w1 h1 K hK => ?_, ?_⟩; · (have f0 : ∀ W : Aft w1, W.val.cell? ⟨qb, qo + i, none⟩ = some (.int .u32 (q i : Nat)) := fun W9 => ((hCC _ _ h1 W9.below).cell (p := ⟨qb, qo + i, none⟩) hql).trans u1; go_big_quiet_op; first | exact hK | fail))
  (refine wpAnyG_take (i := 8) hCC hC0 rfl (by kernel_rfl) (by kernel_rfl) (by kernel_rfl) (fun _ _ _ _ h => h) (by rfl) ?_; apply Exists.intro; refine ⟨fun w1 h1 K hK => ?_, ?_⟩; · ( go_big_quiet_op; first | exact hK | exact ⟨_, fun W => aft_call (pick_any s (q i) _ hq9 h hb), hK⟩))
  (refine wpAnyG_take (i := 9) hCC hC0 rfl (by kernel_rfl) (by kernel_rfl) (by kernel_rfl) (fun _ _ _ _ h => h) (by rfl) ?_; apply Exists.intro; refine ⟨fun w1 h1 K hK => ?_, ?_⟩; · ( go_big_quiet_op; first | exact hK | fail))
  refine wpAnyG_done (by kernel_rfl) (fun wz hwz => ?_) _
  go_wp2_with fail
  go_ret
  have hz := hCC _ _ hC0 hwz
  exact ⟨ret_int (by rw [HI.out]), hz.os.trans HO.out.os, hz.tape.trans HO.out.tape, hz.output.trans HO.out.output, Nat.le_trans HO.out.size hz.size, fun k hk hk2 => (hz.block k (Nat.lt_of_lt_of_le hk HO.out.size)).trans (HO.out.block k hk hk2), by rw [← HJ.out]; exact LZ.out.below hz⟩
end Go.Proofs.Ythoefcpeagclbaa
