/- What a span has in common with others; the leaks of two streets made narrower by one another. -/
import Derived.Test.YtmeeknmjhlfnaaaDoorW5
import Derived.Test.YtmeeknmjhlfnaaaDoorPhase
namespace Go.Proofs.YtmeeknmjhlfnaaaDoor
open Go.RowKit
theorem cutS_if (a b : Spn) : cutS a b = ⟨if a.lo < b.lo then b.lo else a.lo, if b.hi < a.hi then b.hi else a.hi⟩ := by
  have h1 : max a.lo b.lo = if a.lo < b.lo then b.lo else a.lo := by split <;> omega
  have h2 : min a.hi b.hi = if b.hi < a.hi then b.hi else a.hi := by split <;> omega
  unfold cutS
  rw [h1, h2]
theorem below_set2 {B g : Nat} {a w : World} (h : Below B a w) (hg : B ≤ g) (u v : Value) : Below B a ((w.setCell ⟨g, 0, none⟩ u).setCell ⟨g, 1, none⟩ v) := (h.setCell (p := ⟨g, 0, none⟩) hg u).setCell (p := ⟨g, 1, none⟩) hg v
set_option maxRecDepth 100000 in
set_option maxHeartbeats 4000000 in
theorem cut_any (a b : Spn) (oa : Option Addr) (c : Nat) (w : World) (hL : SpnsAt w oa 1 (fun _ => b)) :
    Calls Tryd.prog 31 #[a.val, .slice oa 1 c] w fun e w' => e = .returned (cutS a b).val ∧ Below w.heap.size w w' := by
  obtain ⟨bu, ou, rfl, lu, u0, u1⟩ := hL 0 (by omega)
  rw [Nat.zero_mul, Nat.add_zero] at u0 u1
  go_enter Tryd.func31, Tryd.ntmps31
  go_wp2_with fail
  have hb0 : Below w.heap.size w (((w.alloc (.cells #[.int .i64 a.lo, .int .i64 a.hi] 34)).alloc (.cells #[.int .i64 0, .int .i64 0] 34)).alloc (.cells #[.int .i64 a.lo, .int .i64 a.hi] 33)) := (by repeat' (first | exact Below.refl _ _ | assumption | apply below_drewN | apply Below.drew | (refine Below.alloc ?_ ?_ _) | (refine Below.setCell ?_ ?_ _) | (simp; done) | (simp; omega) | omega))
  have h4 : Box (w.heap.size + 1) #[.int .i64 0, .int .i64 0] 34 (((w.alloc (.cells #[.int .i64 a.lo, .int .i64 a.hi] 34)).alloc (.cells #[.int .i64 0, .int .i64 0] 34)).alloc (.cells #[.int .i64 a.lo, .int .i64 a.hi] 33)) := (Box.new _ 34 _ (by simp)).old _
  have h5 : Box (w.heap.size + 1 + 1) #[.int .i64 a.lo, .int .i64 a.hi] 33 (((w.alloc (.cells #[.int .i64 a.lo, .int .i64 a.hi] 34)).alloc (.cells #[.int .i64 0, .int .i64 0] 34)).alloc (.cells #[.int .i64 a.lo, .int .i64 a.hi] 33)) := Box.new _ 33 _ (by simp)
  obtain ⟨W, hW⟩ : ∃ X, X = (((w.alloc (.cells #[.int .i64 a.lo, .int .i64 a.hi] 34)).alloc (.cells #[.int .i64 0, .int .i64 0] 34)).alloc (.cells #[.int .i64 a.lo, .int .i64 a.hi] 33)) := ⟨_, rfl⟩
  rw [← hW] at hb0 h4 h5 ⊢
  clear hW
  have H4 := Lib.hid h4
  have H5 := Lib.hid h5
  clear h4 h5
  go_loopw [12] (fun v12 wr => ∃ k : Nat, k ≤ 1 ∧ v12 = .int .i64 k ∧ Below w.heap.size w wr ∧ Box (w.heap.size + 1) #[.int .i64 0, .int .i64 0] 34 wr ∧ ∃ s : Spn, s = (if k = 0 then a else cutS a b) ∧ Box (w.heap.size + 1 + 1) #[.int .i64 s.lo, .int .i64 s.hi] 33 wr) (fun i _ => 1 - (intOf i).toNat)
  case atStart => exact ⟨0, by omega, rfl, hb0, H4.out, a, rfl, H5.out⟩
  case round =>
    obtain ⟨k, hk, rfl, hb, z4, s, hs, z5⟩ := hrel
    have Z4 := Lib.hid z4
    have Z5 := Lib.hid z5
    have HB := Lib.hid hb
    clear z4 z5
    by_cases hlt : k < 1
    · obtain rfl : k = 0 := by omega
      have e9 : s = a := hs
      subst e9
      have u2 := (hb.cell (p := ⟨bu, ou, none⟩) lu).trans u0
      have u3 := (hb.cell (p := ⟨bu, ou + 1, none⟩) lu).trans u1
      have lu1 := Nat.lt_of_lt_of_le lu hb.size
      have c0 := Z5.out.cell 0 (v := .int .i64 s.lo) rfl
      have c1 := Z5.out.cell 1 (v := .int .i64 s.hi) rfl
      have c2 := Z5.out.frozen 0
      have c3 := Z5.out.frozen 1
      have c4 := Z5.out.lt
      have c5 := Z4.out.lt
      clear hb hs
      go_wp2_with fail
      go_roundw
      case rel => exact ⟨1, by omega, rfl, ((below_set2 (g := w.heap.size + 1 + 1) HB.out (by omega) _ _).alloc (by have := HB.out.size; simp; omega) _).alloc (by have := HB.out.size; simp; omega) _, ((Z4.out.other (by omega) _ _).other (by omega) _ _).old _ |>.old _, ⟨if s.lo < b.lo then b.lo else s.lo, if b.hi < s.hi then b.hi else s.hi⟩, (by rw [if_neg (show ¬ (1 : Nat) = 0 by omega), cutS_if]), ((Z5.out.set2 _ _).old _).old _⟩
      case measure => simp [intOf]
    · obtain rfl : k = 1 := by omega
      have e9 : s = cutS a b := hs
      have HS := Lib.hid e9
      have c0 := Z5.out.cell 0 (v := .int .i64 s.lo) rfl
      have c1 := Z5.out.cell 1 (v := .int .i64 s.hi) rfl
      have c4 := Z5.out.lt
      have c5 := Z4.out.lt
      have c6 := Z4.out.frozen 0
      have c7 := Z4.out.frozen 1
      have d0 := Z4.out.cell 0 (v := .int .i64 0) rfl
      have d1 := Z4.out.cell 1 (v := .int .i64 0) rfl
      clear hb hs e9
      go_wp2_with fail
      have z := Z4.out.set2 (.int .i64 s.lo) (.int .i64 s.hi)
      have hz := below_set2 (g := w.heap.size + 1) HB.out (by omega) (.int .i64 s.lo) (.int .i64 s.hi)
      obtain ⟨X, hX⟩ : ∃ X, X = (wr.setCell ⟨w.heap.size + 1, 0, none⟩ (.int .i64 s.lo)).setCell ⟨w.heap.size + 1, 1, none⟩ (.int .i64 s.hi) := ⟨_, rfl⟩
      rw [← hX] at z hz ⊢
      have e0 := z.cell 0 (v := .int .i64 s.lo) rfl
      have e1 := z.cell 1 (v := .int .i64 s.hi) rfl
      refine bodyPost_ret (v := .agg #[.int .i64 s.lo, .int .i64 s.hi]) (by simp [results, Tryd.results31, go_sem, e0, e1]) rfl ⟨by rw [← HS.out], hz⟩
end Go.Proofs.YtmeeknmjhlfnaaaDoor
