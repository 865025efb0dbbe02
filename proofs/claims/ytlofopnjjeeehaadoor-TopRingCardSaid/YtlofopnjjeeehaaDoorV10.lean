/- Travel: suspects yields the benches whose suspicion fits. -/
import Derived.Test.YtlofopnjjeeehaaDoorSeqP
import Derived.Test.YtlofopnjjeeehaaDoorV6
import Derived.RangeFuncNested
import Derived.LoopIn
import Derived.LoopNIn
namespace Go.Proofs.YtlofopnjjeeehaaDoor
open Go.RowKit
/-- the first k benches whose suspicion fits -/
def Rnd.susp (r : Rnd) (k : Nat) : List Nat := (List.range k).filter fun b => okT (r.D b)
theorem Rnd.susp_some {r : Rnd} {k : Nat} (h : okT (r.D k) = true) : r.susp (k + 1) = r.susp k ++ [k] := by simp [Rnd.susp, List.range_succ, h]
theorem Rnd.susp_none {r : Rnd} {k : Nat} (h : okT (r.D k) = false) : r.susp (k + 1) = r.susp k := by simp [Rnd.susp, List.range_succ, h]
theorem Rnd.susp_len (r : Rnd) (k : Nat) : (r.susp k).length ≤ k := by
  have := List.length_filter_le (fun b => okT (r.D (b : Nat))) (List.range k)
  simpa [Rnd.susp] using this
set_option maxRecDepth 100000 in
set_option maxHeartbeats 8000000 in
theorem susp_seq (r : Rnd) (oa : Option Addr) (ca : Nat) (gr g2 g3 B : Nat) (w W0 : World) (hv : r.valid = true) (hT : TabAt 1 Lib.deBruijn64tab w) (hw1 : 1 < w.heap.size) (hA : TrpsAt w oa r.n r.t) (hwB : w.heap.size ≤ B) (hgB : gr < B) (h2 : w.heap.size ≤ g2) (h3 : w.heap.size ≤ g3) (hn2 : gr ≠ g2) (hn3 : gr ≠ g3) (hB0 : B ≤ W0.heap.size) (hlow : Below w.heap.size w W0) (hbx : Box gr #[.int .i64 r.nb, .int .i64 r.nm, .int .i64 r.most, .slice oa r.n ca] 29 W0) (m : Nat) (hm : 9 ≤ m) :
    SeqP Fence.wide m Tryd.prog 33 #[.pointer (some ⟨gr, 0, none⟩)] (fun b : Nat => #[.int .i64 b]) (fun b => b < B ∧ b ≠ g2 ∧ b ≠ g3) (fun xs => xs = r.susp r.nb.toNat) (fun xs => ∃ k : Nat, (k : Int) < r.nb ∧ xs = r.susp (k + 1)) 7 W0 (fun b => (b : Int) < r.nb) := by
  intro l J Jx W hW hJ hJx hY h0
  refine callsIn_of_wp Tryd.func33 rfl trivial ?_ rfl
  simp only [Tryd.ntmps33, List.size_toArray, List.length_cons, List.length_nil, Nat.reduceAdd, Nat.reduceSub, Array.replicate_succ, Array.replicate_zero, List.push_toArray, List.append_toArray, List.nil_append, List.cons_append]
  have HIT := Lib.hid (show ∀ X, Same (fun b => b < B ∧ b ≠ g2 ∧ b ≠ g3) W0 X → Below w.heap.size w X ∧ Box gr #[.int .i64 r.nb, .int .i64 r.nm, .int .i64 r.most, .slice oa r.n ca] 29 X from fun X hs => ⟨hlow.trans (hs.below hlow.size fun k hk => ⟨by omega, by omega, by omega⟩), ⟨(hs.block gr (by omega) ⟨hgB, hn2, hn3⟩).trans hbx.row⟩⟩)
  have HY := Lib.hid hY
  have HV := Lib.hid hv
  have HV14 := Lib.hid (Rnd.valid_head hv).2.2.2
  have hb6 := (Rnd.valid_head hv).1.2
  have HW := Lib.hid hW
  have HJ := Lib.hid hJ
  have HJX := Lib.hid hJx
  have HA := Lib.hid hA
  have HT := Lib.hid hT
  have HW1 := Lib.hid hw1
  have HB0 := Lib.hid hB0
  have hb1 := (Rnd.valid_head hv).1.1
  obtain ⟨nb, hnb⟩ : ∃ nb : Nat, (nb : Int) = r.nb := ⟨r.nb.toNat, by omega⟩
  have hn6 : nb ≤ 6 := by omega
  have HNB := Lib.hid hnb
  have c0 := (HIT.out W hW).2.cell 0 (v := .int .i64 nb) (by rw [hnb]; rfl)
  have c1 := (HIT.out W hW).2.lt
  clear hY hv hW hJ hJx hA hT hw1 hB0 hlow hbx hb1 hb6 hwB hgB hnb h2 h3 hn2 hn3
  gi_wp2_with fail
  clear c0 c1
  gi_loopw [8] (fun v8 wr => ∃ k : Nat, k ≤ nb ∧ v8 = .int .i64 k ∧ J (r.susp k) wr ∧ Same (fun b => b < B ∧ b ≠ g2 ∧ b ≠ g3) W0 wr) (fun v8 _ => nb - (intOf v8).toNat)
  case atStart => exact ⟨0, Nat.zero_le _, rfl, h0, HW.out⟩
  case round =>
    obtain ⟨k, hkM, rfl, hJr, hSr⟩ := hrel
    have HJr := Lib.hid hJr
    have HSr := Lib.hid hSr
    obtain ⟨hl9, hb9⟩ := HIT.out _ hSr
    have HL := Lib.hid hl9
    have HB2 := Lib.hid hb9
    clear hJr hSr hl9 hb9
    refine wpIn_wide.2 ?_
    by_cases hlt : k < nb
    · obtain ⟨TAB, hTAB⟩ : ∃ X, X = r.D k := ⟨_, rfl⟩
      have HTAB := Lib.hid (show r.tab k (2 ^ r.n - 1) = TAB from hTAB.symm)
      have HTD := Lib.hid hTAB
      clear hTAB
      go_wp2_with fail
      obtain ⟨W1, hW1⟩ : ∃ X, X = wr := ⟨_, rfl⟩
      rw [← hW1] at HJr HSr HL HB2 ⊢
      clear hW1

      have hCC : ∀ A B : World, Below W1.heap.size W1 A → Below A.heap.size A B → Below W1.heap.size W1 B := fun A B h1 h2 => h1.trans (h2.mono h1.size)
      have hC0 : Below W1.heap.size W1 W1.drew := (Below.refl _ _).drew
      refine wp_region_garb (fun A => Below W1.heap.size W1 A) (by kernel_rfl) ?_
      (refine wpAnyG_take (i := 0) hCC hC0 rfl (by kernel_rfl) (by kernel_rfl) (by kernel_rfl) (fun _ _ _ _ h => h) (by rfl) ?_; apply Exists.intro; refine ⟨fun w1 h1 K hK => ?_, ?_⟩; · (have q0 : ∀ W : Aft w1, W.val.cell? ⟨gr, 0, none⟩ = some (.int .i64 r.nb) := fun W => (HB2.out.below (hCC _ _ h1 W.below)).cell 0 rfl; have q1 : ∀ W : Aft w1, W.val.cell? ⟨gr, 1, none⟩ = some (.int .i64 r.nm) := fun W => (HB2.out.below (hCC _ _ h1 W.below)).cell 1 rfl; have q2 : ∀ W : Aft w1, W.val.cell? ⟨gr, 2, none⟩ = some (.int .i64 r.most) := fun W => (HB2.out.below (hCC _ _ h1 W.below)).cell 2 rfl; have q3 : ∀ W : Aft w1, W.val.cell? ⟨gr, 3, none⟩ = some (.slice oa r.n ca) := fun W => (HB2.out.below (hCC _ _ h1 W.below)).cell 3 rfl; have q4 : ∀ W : Aft w1, gr < W.val.heap.size := fun W => (HB2.out.below (hCC _ _ h1 W.below)).lt; go_big_quiet_op; first | exact hK | fail))
      (refine wpAnyG_take (i := 1) hCC hC0 rfl (by kernel_rfl) (by kernel_rfl) (by kernel_rfl) (fun _ _ _ _ h => h) (by rfl) ?_; apply Exists.intro; refine ⟨fun w1 h1 K hK => ?_, ?_⟩; · ( go_big_quiet_op; first | exact hK | fail))
      (refine wpAnyG_take (i := 2) hCC hC0 rfl (by kernel_rfl) (by kernel_rfl) (by kernel_rfl) (fun _ _ _ _ h => h) (by rfl) ?_; apply Exists.intro; refine ⟨fun w1 h1 K hK => ?_, ?_⟩; · (have q0 : ∀ W : Aft w1, W.val.cell? ⟨gr, 0, none⟩ = some (.int .i64 r.nb) := fun W => (HB2.out.below (hCC _ _ h1 W.below)).cell 0 rfl; have q1 : ∀ W : Aft w1, W.val.cell? ⟨gr, 1, none⟩ = some (.int .i64 r.nm) := fun W => (HB2.out.below (hCC _ _ h1 W.below)).cell 1 rfl; have q2 : ∀ W : Aft w1, W.val.cell? ⟨gr, 2, none⟩ = some (.int .i64 r.most) := fun W => (HB2.out.below (hCC _ _ h1 W.below)).cell 2 rfl; have q3 : ∀ W : Aft w1, W.val.cell? ⟨gr, 3, none⟩ = some (.slice oa r.n ca) := fun W => (HB2.out.below (hCC _ _ h1 W.below)).cell 3 rfl; have q4 : ∀ W : Aft w1, gr < W.val.heap.size := fun W => (HB2.out.below (hCC _ _ h1 W.below)).lt; go_big_quiet_op; first | exact hK | fail))
      (refine wpAnyG_take (i := 3) hCC hC0 rfl (by kernel_rfl) (by kernel_rfl) (by kernel_rfl) (fun _ _ _ _ h => h) (by rfl) ?_; apply Exists.intro; refine ⟨fun w1 h1 K hK => ?_, ?_⟩; · ( go_big_quiet_op; first | exact hK | exact ⟨_, fun W => aft_call (all_any r oa ca _ HV14.out), hK⟩))
      (refine wpAnyG_take (i := 4) hCC hC0 rfl (by kernel_rfl) (by kernel_rfl) (by kernel_rfl) (fun _ _ _ _ h => h) (by rfl) ?_; apply Exists.intro; refine ⟨fun w1 h1 K hK => ?_, ?_⟩; · ( go_big_quiet_op; first | exact hK | exact ⟨_, fun W => aft_call (by have h9 := bnd_any r oa ca (k : Int) (2 ^ r.n - 1) W.val HV.out (tab_below HT.out HW1.out (HL.out.trans ((hCC _ _ h1 W.below).mono HL.out.size))) (Nat.lt_of_lt_of_le HW1.out (HL.out.trans ((hCC _ _ h1 W.below).mono HL.out.size)).size) (HA.out.mono (HL.out.trans ((hCC _ _ h1 W.below).mono HL.out.size))) (two_pred r.n); rw [HTAB.out] at h9; exact h9), hK⟩))
      (refine wpAnyG_take (i := 5) hCC hC0 rfl (by kernel_rfl) (by kernel_rfl) (by kernel_rfl) (fun _ _ _ _ h => h) (by rfl) ?_; apply Exists.intro; refine ⟨fun w1 h1 K hK => ?_, ?_⟩; · ( go_big_quiet_op; first | exact hK | fail))
      (refine wpAnyG_take (i := 6) hCC hC0 rfl (by kernel_rfl) (by kernel_rfl) (by kernel_rfl) (fun _ _ _ _ h => h) (by rfl) ?_; apply Exists.intro; refine ⟨fun w1 h1 K hK => ?_, ?_⟩; · ( go_big_quiet_op; first | exact hK | fail))
      (refine wpAnyG_take (i := 7) hCC hC0 rfl (by kernel_rfl) (by kernel_rfl) (by kernel_rfl) (fun _ _ _ _ h => h) (by rfl) ?_; apply Exists.intro; refine ⟨fun w1 h1 K hK => ?_, ?_⟩; · ( go_big_quiet_op; first | exact hK | fail))
      (refine wpAnyG_one (i := 8) (by kernel_rfl) rfl (by rfl) (fun wa hwa K hK => ?_))
      go_simp
      refine hK _ _ ((hCC _ _ hC0 hwa).alloc (by have := hC0.size; have := hwa.size; omega) _) ?_
      clear hK K
      have s9 := Box.new (g := wa.heap.size) Tryd.zeroCells63 63 wa rfl
      have hC1 := (hCC _ _ hC0 hwa).alloc (by have := hC0.size; have := hwa.size; omega) (.cells Tryd.zeroCells63 63)
      have hg9 : W1.heap.size ≤ wa.heap.size := Nat.le_trans hC0.size hwa.size
      clear hwa
      obtain ⟨g9, hG⟩ : ∃ G, G = wa.heap.size := ⟨_, rfl⟩
      obtain ⟨wA, hWA⟩ : ∃ X, X = wa.alloc (.cells Tryd.zeroCells63 63) := ⟨_, rfl⟩
      rw [← hG] at s9 hg9 ⊢
      rw [← hWA] at s9 hC1 ⊢
      rw [z62] at s9
      clear hG hWA
      (refine wpAnyG_one (i := 9) (by kernel_rfl) rfl (by rfl) (fun wb hwb K hK => ?_))
      refine wp_store_box (s9.below hwb) rfl rfl rfl (by rw [cells13_size, cells13_size]) (by rw [cells13_size]; kernel_rfl) (cells13_one _) (fun wc s8 ho => ?_)
      dsimp only [Act.put]
      refine hK _ _ ((hCC _ _ hC1 hwb).trans (ho.below hg9)) ?_
      clear hK K
      have hC2 := (hCC _ _ hC1 hwb).trans (ho.below hg9)
      clear s9 hC1 ho hwb
      (refine wpAnyG_one (i := 10) (by kernel_rfl) rfl (by rfl) (fun wd hwd K hK => ?_))
      go_simp
      refine hK _ _ (hCC _ _ hC2 hwd) ?_
      clear hK K
      refine wpAnyG_done (by kernel_rfl) (fun wz hwz => ?_) _
      have HT9 := Lib.hid ((s8.below hwd).below hwz)
      have hz9 := hCC _ _ (hCC _ _ hC2 hwd) hwz
      clear s8 hC2 hwd hwz hC0 hCC
      have HS2 := Lib.hid (HSr.out.trans (Same.of_below hz9 fun q hq hqB => hq))
      have HJ2 := Lib.hid (HJ.out _ _ _ HJr.out hz9)
      clear hz9
      cases ho : okT TAB
      · have E1 := Lib.hid (show r.susp (k + 1) = r.susp k from Rnd.susp_none (by rw [← HTD.out]; exact ho))
        clear ho
        go_wp2_with fail
        go_roundw
        case rel => exact ⟨k + 1, by omega, by go_num, by rw [E1.out]; exact HJ2.out, HS2.out⟩
        case measure => simp [intOf]; omega
      · have E1 := Lib.hid (show r.susp (k + 1) = r.susp k ++ [k] from Rnd.susp_some (by rw [← HTD.out]; exact ho))
        clear ho
        go_upto_region 4 with fail
        refine (wpIn_wide (n := m)).1 ?_
        obtain ⟨fn, tmps, assign, body, hy, hRd⟩ := HY.out (r.susp k) k wz (by rw [← HNB.out]; omega) HJ2.out (by have := r.susp_len k; omega)
        gi_wp2
        refine ⟨fun _ => by omega, hRd.mono ?_⟩
        rintro e W8 (⟨rfl, hJ8, hk8⟩ | ⟨rfl, hJx8⟩)
        · clear hy hRd
          have J8 := Lib.hid hJ8
          have K8 := Lib.hid (HS2.out.trans hk8)
          clear hJ8 hk8
          gi_wp2
          refine (show Code.wp Tryd.prog (Code.cond (Operand.tmp 25) Code.ret Code.skip) _ _ _ from ?_)
          go_wp2_with fail
          go_roundw
          case rel => exact ⟨k + 1, by omega, by go_num, by rw [E1.out]; exact J8.out, K8.out⟩
          case measure => simp [intOf]; omega
        · clear hy hRd
          gi_wp2
          refine (show Code.wp Tryd.prog (Code.cond (Operand.tmp 25) Code.ret Code.skip) _ _ _ from ?_)
          go_wp2_with fail
          refine bodyPost_ret (results_none rfl _ _ _) rfl ⟨⟨_, rfl⟩, .inr ⟨_, ⟨k, by rw [← HNB.out]; omega, E1.out.symm⟩, hJx8⟩⟩
    · obtain rfl : k = nb := by omega
      have E1 := Lib.hid (show r.susp r.nb.toNat = r.susp k by rw [← HNB.out]; rfl)
      go_wp2_with fail
      refine bodyPost_end (results_none rfl _ _ _) rfl ⟨⟨_, rfl⟩, .inl (by first | (rw [E1.out]; exact HJr.out) | exact ⟨_, E1.out.symm, HJr.out⟩)⟩
end Go.Proofs.YtlofopnjjeeehaaDoor
