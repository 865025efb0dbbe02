/- The closures of the scale's water, and best, over fractions whose numbers are not too great. -/
import Derived.Test.YthoefcpeagclbaaW9
namespace Go.Proofs.Ythoefcpeagclbaa
open Go.RowKit
/-- a density: a fraction of a table -/
structure Dense (f : Frac) : Prop where
  u0 : 0 < f.under
  u1 : f.under ≤ 10000
  t0 : f.under ≤ f.top
  t1 : f.top ≤ 10000000 * f.under
theorem Dense.mul {a b : Frac} (ha : Dense a) (hb : Dense b) : -4000000000000000000 ≤ a.top * b.under ∧ a.top * b.under ≤ 4000000000000000000 := by
  have h1 := ha.u0
  have h2 := ha.u1
  have h3 := ha.t0
  have h4 := ha.t1
  have h5 := hb.u0
  have h6 := hb.u1
  have := mulb (a := a.top) (b := b.under) (x := 100000000000) (y := 10000) (by omega) (by omega) (by omega) (by omega)
  omega
def Frac.lt (a b : Frac) : Bool := decide (a.top * b.under < b.top * a.under)
theorem lessD_any (a b : Frac) (w : World) (ha : Dense a) (hb : Dense b) :
    Calls Try.prog 30 #[a.val, b.val] w fun e w' => e = .returned (.bool (a.lt b)) ∧ Below w.heap.size w w' := less_any a b w (ha.mul hb) (hb.mul ha)
set_option maxHeartbeats 400000 in
theorem thin_any (a b : Frac) (w : World) (ha : Dense a) (hb : Dense b) :
    Calls Try.prog 80 #[a.val, b.val] w fun e w' => e = .returned (.bool (a.lt b)) ∧ Below w.heap.size w w' := by
  have h1 := ha.mul hb
  have h2 := hb.mul ha
  go_enter Try.func80, Try.ntmps80
  go_wp2_with (go_at_call 47; refine (compare_any a b _ h1 h2).mono ?_; rintro e w1 ⟨rfl, hb1⟩)
  go_ret
  exact ⟨ret_bool (by simp [Frac.lt] <;> omega), (Below.trans ((by repeat' (first | exact Below.refl _ _ | assumption | apply below_drewN | apply Below.drew | (refine Below.alloc ?_ ?_ _) | (refine Below.setCell ?_ ?_ _) | (simp; done) | (simp; omega) | omega))) (Below.mono hb1 (by simp <;> omega)))⟩
set_option maxHeartbeats 400000 in
theorem thick_any (a b : Frac) (w : World) (ha : Dense a) (hb : Dense b) :
    Calls Try.prog 81 #[a.val, b.val] w fun e w' => e = .returned (.bool (b.lt a)) ∧ Below w.heap.size w w' := by
  have h1 := ha.mul hb
  have h2 := hb.mul ha
  go_enter Try.func81, Try.ntmps81
  go_wp2_with (go_at_call 47; refine (compare_any a b _ h1 h2).mono ?_; rintro e w1 ⟨rfl, hb1⟩)
  go_ret
  exact ⟨ret_bool (by simp [Frac.lt] <;> omega), (Below.trans ((by repeat' (first | exact Below.refl _ _ | assumption | apply below_drewN | apply Below.drew | (refine Below.alloc ?_ ?_ _) | (refine Below.setCell ?_ ?_ _) | (simp; done) | (simp; omega) | omega))) (Below.mono hb1 (by simp <;> omega)))⟩
set_option maxHeartbeats 400000 in
theorem borne_any (g y : Int) (d : Frac) (w : World) (hy : 0 ≤ y ∧ y ≤ 10000) (h1 : -1000000000000000000 ≤ g * (1000000 + y) ∧ g * (1000000 + y) ≤ 1000000000000000000) (h2 : -4000000000000000000 ≤ g * (1000000 + y) * d.under ∧ g * (1000000 + y) * d.under ≤ 4000000000000000000) :
    Calls Try.prog 82 #[.int .i64 g, .int .i64 y, d.val] w fun e w' => e = .returned (Frac.val ⟨g * (1000000 + y) * d.under, d.top⟩) ∧ Below w.heap.size w w' := by
  go_enter Try.func82, Try.ntmps82
  go_wp2
  refine bodyPost_ret (v := .agg #[.int .i64 (g * (1000000 + y) * d.under), .int .i64 d.top]) (by simp [results, Try.results82, go_sem]) rfl ⟨rfl, (by repeat' (first | exact Below.refl _ _ | assumption | apply below_drewN | apply Below.drew | (refine Below.alloc ?_ ?_ _) | (refine Below.setCell ?_ ?_ _) | (simp; done) | (simp; omega) | omega))⟩
def FracsAt (w : World) (oa : Option Addr) (n : Nat) (t : Nat → Frac) : Prop :=
  ∀ i, i < n → ∃ b off, oa = some ⟨b, off, none⟩ ∧ b < w.heap.size ∧ w.cell? ⟨b, off + i * 2, none⟩ = some (.int .i64 (t i).top) ∧ w.cell? ⟨b, off + i * 2 + 1, none⟩ = some (.int .i64 (t i).under)
theorem FracsAt.mono {w w' : World} {oa : Option Addr} {n : Nat} {t : Nat → Frac} (h : FracsAt w oa n t) (hb : Below w.heap.size w w') : FracsAt w' oa n t := fun i hi => by
  obtain ⟨b, off, ha, hlt, h0, h1⟩ := h i hi
  exact ⟨b, off, ha, Nat.lt_of_lt_of_le hlt hb.size, (hb.cell (p := ⟨b, off + i * 2, none⟩) hlt).trans h0, (hb.cell (p := ⟨b, off + i * 2 + 1, none⟩) hlt).trans h1⟩
/-- the best of the first k things, after a first one -/
def bestN (better : Frac → Frac → Bool) (t : Nat → Frac) (first : Frac) : Nat → Frac
  | 0 => first
  | k + 1 => if better (t k) (bestN better t first k) then t k else bestN better t first k
theorem bestN_dense {better : Frac → Frac → Bool} {t : Nat → Frac} {first : Frac} (hf : Dense first) : ∀ {k : Nat}, (∀ i, i < k → Dense (t i)) → Dense (bestN better t first k)
  | 0, _ => hf
  | k + 1, h => by
    unfold bestN
    split
    · exact h k (by omega)
    · exact bestN_dense hf fun i hi => h i (by omega)
set_option maxHeartbeats 2000000 in
theorem bestThin_any (first : Frac) (oa : Option Addr) (n cap : Nat) (t : Nat → Frac) (w : World) (hn : n ≤ 1000000) (hT : FracsAt w oa n t) (hf : Dense first) (hd : ∀ i, i < n → Dense (t i)) :
    Calls Try.prog 79 #[.func (.func 80) #[] #[], first.val, .slice oa n cap] w fun e w' => e = .returned (bestN Frac.lt t first n).val ∧ Below w.heap.size w w' := by
  have HT := Lib.hid hT
  have HD := Lib.hid hd
  have HF := Lib.hid hf
  clear hT hd hf
  go_enter Try.func79, Try.ntmps79
  go_wp2_with fail
  have HB := Lib.hid ((Box.new #[.int .i64 first.top, .int .i64 first.under] 74 w rfl).old (.cells #[.int .i64 0, .int .i64 0] 74))
  have HR := Lib.hid (Box.new (g := w.heap.size + 1) #[.int .i64 0, .int .i64 0] 74 (w.alloc (.cells #[.int .i64 first.top, .int .i64 first.under] 74)) (by simp))
  have hbw : Below w.heap.size w ((w.alloc (.cells #[.int .i64 first.top, .int .i64 first.under] 74)).alloc (.cells #[.int .i64 0, .int .i64 0] 74)) := (by repeat' (first | exact Below.refl _ _ | assumption | apply below_drewN | apply Below.drew | (refine Below.alloc ?_ ?_ _) | (refine Below.setCell ?_ ?_ _) | (simp; done) | (simp; omega) | omega))
  obtain ⟨w0, hw0⟩ : ∃ X, X = (w.alloc (.cells #[.int .i64 first.top, .int .i64 first.under] 74)).alloc (.cells #[.int .i64 0, .int .i64 0] 74) := ⟨_, rfl⟩
  rw [← hw0] at HB HR hbw ⊢
  clear hw0
  go_loopw [11] (fun v11 wr => ∃ k : Nat, k ≤ n ∧ v11 = .int .i64 k ∧ Below w.heap.size w wr ∧ Box (w.heap.size + 1) #[.int .i64 0, .int .i64 0] 74 wr ∧ Box w.heap.size #[.int .i64 (bestN Frac.lt t first k).top, .int .i64 (bestN Frac.lt t first k).under] 74 wr) (fun i _ => n - (intOf i).toNat)
  case atStart => exact ⟨0, Nat.zero_le _, rfl, hbw, HR.out, HB.out⟩
  case round =>
    obtain ⟨k, hk, rfl, hb, hr, hx⟩ := hrel
    have HX := Lib.hid hx
    have HS := Lib.hid hr
    clear HB HR hbw hr hx
    have hl := HS.out.lt
    have hl2 : w.heap.size < wr.heap.size := by omega
    have hl3 : ¬ w.heap.size = wr.heap.size := by omega
    have x0 := HX.out.cell 0 rfl
    have x1 := HX.out.cell 1 rfl
    have y0 := HX.out.frozen 0
    have y1 := HX.out.frozen 1
    by_cases hlt : k < n
    · obtain ⟨b, off, rfl, hlt0, c0, c1⟩ := (HT.out.mono hb) k hlt
      have DK := HD.out k hlt
      have DX := bestN_dense (better := Frac.lt) HF.out (k := k) (fun i hi => HD.out i (by omega))
      obtain ⟨f, hf⟩ : ∃ f, f = bestN Frac.lt t first k := ⟨_, rfl⟩
      rw [← hf] at x0 x1 HX DX
      have DK2 := Lib.hid DK
      have DX2 := Lib.hid DX
      have HE := Lib.hid hf
      clear DK DX hf
      go_wp2_with fail
      refine (thin_any (t k) f _ DK2.out DX2.out).mono ?_
      rintro e w2 ⟨rfl, hb2⟩
      have hbA := below_alloc1 wr (.cells #[.int .i64 (t k).top, .int .i64 (t k).under] 74)
      have N := (Box.new #[.int .i64 (t k).top, .int .i64 (t k).under] 74 wr rfl).below hb2
      have hbz := hbA.trans (hb2.mono hbA.size)
      have HX2 := Lib.hid (HX.out.below hbz)
      have HS2 := Lib.hid (HS.out.below hbz)
      have hbw2 := hb.trans (hbz.mono hb.size)
      have n0 := N.cell 0 rfl
      have n1 := N.cell 1 rfl
      have z0 := HX2.out.cell 0 rfl
      have z1 := HX2.out.cell 1 rfl
      have v0 := HX2.out.frozen 0
      have v1 := HX2.out.frozen 1
      clear x0 x1 y0 y1 N hbz hbA hb2
      by_cases hc : (t k).lt f = true
      · have e2 : bestN Frac.lt t first (k + 1) = t k := by rw [bestN, ← HE.out]; exact if_pos hc
        have E2 := Lib.hid e2
        clear e2
        go_wp2_with fail
        go_roundw
        case rel => exact ⟨k + 1, by omega, by go_num, (by repeat' (first | exact Below.refl _ _ | assumption | apply below_drewN | apply Below.drew | (refine Below.alloc ?_ ?_ _) | (refine Below.setCell ?_ ?_ _) | (simp; done) | (simp; omega) | omega)), by have h := (HS2.out.other (g' := w.heap.size) (by omega) 0 (.int .i64 (t k).top)).other (g' := w.heap.size) (by omega) 1 (.int .i64 (t k).under); exact h, by rw [E2.out]; exact HX2.out.set2 _ _⟩
        case measure => simp [intOf]; omega
      · replace hc : (t k).lt f = false := by simpa using hc
        have e2 : bestN Frac.lt t first (k + 1) = f := by rw [bestN, ← HE.out, if_neg (by rw [hc]; simp)]
        have E2 := Lib.hid e2
        clear e2
        go_wp2_with fail
        go_roundw
        case rel => exact ⟨k + 1, by omega, by go_num, hbw2, HS2.out, by rw [E2.out]; exact HX2.out⟩
        case measure => simp [intOf]; omega
    · obtain rfl : k = n := by omega
      have s0 := HS.out.cell 0 rfl
      have s1 := HS.out.cell 1 rfl
      have t0 := HS.out.frozen 0
      have t1 := HS.out.frozen 1
      go_wp2_with fail
      have pq := put2 s0 s1 (.int .i64 (bestN Frac.lt t first k).top) (.int .i64 (bestN Frac.lt t first k).under)
      refine bodyPost_ret (v := .agg #[.int .i64 (bestN Frac.lt t first k).top, .int .i64 (bestN Frac.lt t first k).under]) (by simp [results, Try.results79, go_sem, pq.1, pq.2]) rfl ⟨rfl, (by repeat' (first | exact Below.refl _ _ | assumption | apply below_drewN | apply Below.drew | (refine Below.alloc ?_ ?_ _) | (refine Below.setCell ?_ ?_ _) | (simp; done) | (simp; omega) | omega))⟩
set_option maxHeartbeats 2000000 in
theorem bestThick_any (first : Frac) (oa : Option Addr) (n cap : Nat) (t : Nat → Frac) (w : World) (hn : n ≤ 1000000) (hT : FracsAt w oa n t) (hf : Dense first) (hd : ∀ i, i < n → Dense (t i)) :
    Calls Try.prog 79 #[.func (.func 81) #[] #[], first.val, .slice oa n cap] w fun e w' => e = .returned (bestN (fun a b => Frac.lt b a) t first n).val ∧ Below w.heap.size w w' := by
  have HT := Lib.hid hT
  have HD := Lib.hid hd
  have HF := Lib.hid hf
  clear hT hd hf
  go_enter Try.func79, Try.ntmps79
  go_wp2_with fail
  have HB := Lib.hid ((Box.new #[.int .i64 first.top, .int .i64 first.under] 74 w rfl).old (.cells #[.int .i64 0, .int .i64 0] 74))
  have HR := Lib.hid (Box.new (g := w.heap.size + 1) #[.int .i64 0, .int .i64 0] 74 (w.alloc (.cells #[.int .i64 first.top, .int .i64 first.under] 74)) (by simp))
  have hbw : Below w.heap.size w ((w.alloc (.cells #[.int .i64 first.top, .int .i64 first.under] 74)).alloc (.cells #[.int .i64 0, .int .i64 0] 74)) := (by repeat' (first | exact Below.refl _ _ | assumption | apply below_drewN | apply Below.drew | (refine Below.alloc ?_ ?_ _) | (refine Below.setCell ?_ ?_ _) | (simp; done) | (simp; omega) | omega))
  obtain ⟨w0, hw0⟩ : ∃ X, X = (w.alloc (.cells #[.int .i64 first.top, .int .i64 first.under] 74)).alloc (.cells #[.int .i64 0, .int .i64 0] 74) := ⟨_, rfl⟩
  rw [← hw0] at HB HR hbw ⊢
  clear hw0
  go_loopw [11] (fun v11 wr => ∃ k : Nat, k ≤ n ∧ v11 = .int .i64 k ∧ Below w.heap.size w wr ∧ Box (w.heap.size + 1) #[.int .i64 0, .int .i64 0] 74 wr ∧ Box w.heap.size #[.int .i64 (bestN (fun a b => Frac.lt b a) t first k).top, .int .i64 (bestN (fun a b => Frac.lt b a) t first k).under] 74 wr) (fun i _ => n - (intOf i).toNat)
  case atStart => exact ⟨0, Nat.zero_le _, rfl, hbw, HR.out, HB.out⟩
  case round =>
    obtain ⟨k, hk, rfl, hb, hr, hx⟩ := hrel
    have HX := Lib.hid hx
    have HS := Lib.hid hr
    clear HB HR hbw hr hx
    have hl := HS.out.lt
    have hl2 : w.heap.size < wr.heap.size := by omega
    have hl3 : ¬ w.heap.size = wr.heap.size := by omega
    have x0 := HX.out.cell 0 rfl
    have x1 := HX.out.cell 1 rfl
    have y0 := HX.out.frozen 0
    have y1 := HX.out.frozen 1
    by_cases hlt : k < n
    · obtain ⟨b, off, rfl, hlt0, c0, c1⟩ := (HT.out.mono hb) k hlt
      have DK := HD.out k hlt
      have DX := bestN_dense (better := (fun a b => Frac.lt b a)) HF.out (k := k) (fun i hi => HD.out i (by omega))
      obtain ⟨f, hf⟩ : ∃ f, f = bestN (fun a b => Frac.lt b a) t first k := ⟨_, rfl⟩
      rw [← hf] at x0 x1 HX DX
      have DK2 := Lib.hid DK
      have DX2 := Lib.hid DX
      have HE := Lib.hid hf
      clear DK DX hf
      go_wp2_with fail
      refine (thick_any (t k) f _ DK2.out DX2.out).mono ?_
      rintro e w2 ⟨rfl, hb2⟩
      have hbA := below_alloc1 wr (.cells #[.int .i64 (t k).top, .int .i64 (t k).under] 74)
      have N := (Box.new #[.int .i64 (t k).top, .int .i64 (t k).under] 74 wr rfl).below hb2
      have hbz := hbA.trans (hb2.mono hbA.size)
      have HX2 := Lib.hid (HX.out.below hbz)
      have HS2 := Lib.hid (HS.out.below hbz)
      have hbw2 := hb.trans (hbz.mono hb.size)
      have n0 := N.cell 0 rfl
      have n1 := N.cell 1 rfl
      have z0 := HX2.out.cell 0 rfl
      have z1 := HX2.out.cell 1 rfl
      have v0 := HX2.out.frozen 0
      have v1 := HX2.out.frozen 1
      clear x0 x1 y0 y1 N hbz hbA hb2
      by_cases hc : f.lt (t k) = true
      · have e2 : bestN (fun a b => Frac.lt b a) t first (k + 1) = t k := by rw [bestN, ← HE.out]; exact if_pos hc
        have E2 := Lib.hid e2
        clear e2
        go_wp2_with fail
        go_roundw
        case rel => exact ⟨k + 1, by omega, by go_num, (by repeat' (first | exact Below.refl _ _ | assumption | apply below_drewN | apply Below.drew | (refine Below.alloc ?_ ?_ _) | (refine Below.setCell ?_ ?_ _) | (simp; done) | (simp; omega) | omega)), by have h := (HS2.out.other (g' := w.heap.size) (by omega) 0 (.int .i64 (t k).top)).other (g' := w.heap.size) (by omega) 1 (.int .i64 (t k).under); exact h, by rw [E2.out]; exact HX2.out.set2 _ _⟩
        case measure => simp [intOf]; omega
      · replace hc : f.lt (t k) = false := by simpa using hc
        have e2 : bestN (fun a b => Frac.lt b a) t first (k + 1) = f := by rw [bestN, ← HE.out, if_neg (by rw [hc]; simp)]
        have E2 := Lib.hid e2
        clear e2
        go_wp2_with fail
        go_roundw
        case rel => exact ⟨k + 1, by omega, by go_num, hbw2, HS2.out, by rw [E2.out]; exact HX2.out⟩
        case measure => simp [intOf]; omega
    · obtain rfl : k = n := by omega
      have s0 := HS.out.cell 0 rfl
      have s1 := HS.out.cell 1 rfl
      have t0 := HS.out.frozen 0
      have t1 := HS.out.frozen 1
      go_wp2_with fail
      have pq := put2 s0 s1 (.int .i64 (bestN (fun a b => Frac.lt b a) t first k).top) (.int .i64 (bestN (fun a b => Frac.lt b a) t first k).under)
      refine bodyPost_ret (v := .agg #[.int .i64 (bestN (fun a b => Frac.lt b a) t first k).top, .int .i64 (bestN (fun a b => Frac.lt b a) t first k).under]) (by simp [results, Try.results79, go_sem, pq.1, pq.2]) rfl ⟨rfl, (by repeat' (first | exact Below.refl _ _ | assumption | apply below_drewN | apply Below.drew | (refine Below.alloc ?_ ?_ _) | (refine Below.setCell ?_ ?_ _) | (simp; done) | (simp; omega) | omega))⟩
end Go.Proofs.Ythoefcpeagclbaa
