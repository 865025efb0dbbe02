/- TravelOrder's closures; what is convicted of a round that is too long. -/
import Derived.Test.YtldodmfmibeoiaaDoorP14
namespace Go.Proofs.YtldodmfmibeoiaaDoor
open Go.RowKit
theorem rot_tmod (n k z : Nat) : ((z : Int) + (k : Int)).tmod (n : Int) = ((rot n k z : Nat) : Int) := by
  rw [Int.tmod_eq_emod_of_nonneg (by omega)]
  unfold rot
  rw [Int.natCast_emod, Int.natCast_add]
set_option maxRecDepth 100000 in
set_option maxHeartbeats 4000000 in
theorem turnB_any (z k : Nat) (r : Rnd) (oa : Option Addr) (ca g9 gR : Nat) (w : World) (hv : r.valid = true) (hz : z ≤ 1000) (hk : k < 256) (hK : Box g9 #[.int .u8 (k : Nat)] 5 w) (hR : Box gR #[.int .i64 r.nb, .int .i64 r.nm, .int .i64 r.most, .slice oa r.n ca] 24 w) :
    Calls Tryd.prog 29 #[.int .i64 (z : Nat), .pointer (some ⟨g9, 0, none⟩), .pointer (some ⟨gR, 0, none⟩)] w fun e w' => e = .returned (.int .i64 (rot r.nb.toNat k z : Nat)) ∧ Below w.heap.size w w' := by
  have hh := Rnd.valid_head hv
  obtain ⟨nb, hnb⟩ : ∃ nb : Nat, r.nb = nb := ⟨r.nb.toNat, by omega⟩
  have HE := Lib.hid (rot_tmod nb k z)
  have c0 := hK.cell 0 (v := .int .u8 (k : Nat)) rfl
  have c1 := hK.lt
  have c2 := hR.cell 0 (v := .int .i64 r.nb) rfl
  have c3 := hR.lt
  have h1 : 1 ≤ nb := by omega
  have h2 : nb ≤ 6 := by omega
  rw [hnb, Int.toNat_natCast]
  rw [hnb] at c2
  clear hnb hh hv hK hR
  have hm := HE.out
  have x1 : ((nb : Int) == 0) = false := by simp; omega
  have x2 : (nb : Int) ≠ 0 := by omega
  obtain ⟨q, hq⟩ : ∃ q, q = rot nb k z := ⟨_, rfl⟩
  rw [← hq] at hm ⊢
  clear hq HE
  go_enter Tryd.func29, Tryd.ntmps29
  go_wp2_with fail
  go_ret
  exact ⟨rfl, Below.refl _ _⟩
set_option maxRecDepth 100000 in
set_option maxHeartbeats 4000000 in
theorem turnM_any (z k : Nat) (r : Rnd) (oa : Option Addr) (ca g9 gR : Nat) (w : World) (hv : r.valid = true) (hz : z ≤ 1000) (hk : k < 256) (hK : Box g9 #[.int .u8 (k : Nat)] 5 w) (hR : Box gR #[.int .i64 r.nb, .int .i64 r.nm, .int .i64 r.most, .slice oa r.n ca] 24 w) :
    Calls Tryd.prog 30 #[.int .i64 (z : Nat), .pointer (some ⟨g9, 0, none⟩), .pointer (some ⟨gR, 0, none⟩)] w fun e w' => e = .returned (.int .i64 (rot r.nm.toNat (k / 3) z : Nat)) ∧ Below w.heap.size w w' := by
  have hh := Rnd.valid_head hv
  obtain ⟨nb, hnb⟩ : ∃ nb : Nat, r.nm = nb := ⟨r.nm.toNat, by omega⟩
  have HE := Lib.hid (rot_tmod nb (k / 3) z)
  have c0 := hK.cell 0 (v := .int .u8 (k : Nat)) rfl
  have c1 := hK.lt
  have c2 := hR.cell 1 (v := .int .i64 r.nm) rfl
  have c3 := hR.lt
  have h1 : 1 ≤ nb := by omega
  have h2 : nb ≤ 6 := by omega
  rw [hnb, Int.toNat_natCast]
  rw [hnb] at c2
  clear hnb hh hv hK hR
  have hm := HE.out
  have x1 : ((nb : Int) == 0) = false := by simp; omega
  have x2 : (nb : Int) ≠ 0 := by omega
  have hd : (k : Int).tdiv 3 = ((k / 3 : Nat) : Int) := by rw [Int.tdiv_eq_ediv_of_nonneg (by omega)]; rfl
  obtain ⟨d, hdd⟩ : ∃ d, d = k / 3 := ⟨_, rfl⟩
  have hd2 : d ≤ 100 := by omega
  rw [← hdd] at hd hm ⊢
  clear hdd
  obtain ⟨q, hq⟩ : ∃ q, q = rot nb d z := ⟨_, rfl⟩
  rw [← hq] at hm ⊢
  clear hq HE
  go_enter Tryd.func30, Tryd.ntmps30
  go_wp2_with fail
  go_ret
  exact ⟨rfl, Below.refl _ _⟩
set_option maxHeartbeats 4000000 in
theorem isRound_big (r : Rnd) (oa : Option Addr) (ca : Nat) (w : World) (h4 : ¬ r.n ≤ 14) (hn : r.n ≤ 9223372036854775807) :
    Calls Tryd.prog 50 #[r.val oa ca] w fun e w' => e = .returned (.bool false) ∧ Below w.heap.size w w' := by
  go_enter Tryd.func50, Tryd.ntmps50
  go_upto_region 2 with fail
  have hb0 := below_alloc1 w (.cells #[.int .i64 r.nb, .int .i64 r.nm, .int .i64 r.most, .slice oa r.n ca] 24)
  have hT := Box.new (g := w.heap.size) #[.int .i64 r.nb, .int .i64 r.nm, .int .i64 r.most, .slice oa r.n ca] 24 w rfl
  obtain ⟨W, hW⟩ : ∃ X, X = w.alloc (.cells #[.int .i64 r.nb, .int .i64 r.nm, .int .i64 r.most, .slice oa r.n ca] 24) := ⟨_, rfl⟩
  rw [← hW] at hb0 hT ⊢
  clear hW
  have b0 := hT.cell 0 rfl
  have b1 := hT.cell 1 rfl
  have b2 := hT.cell 2 rfl
  have b3 := hT.cell 3 rfl
  have b4 := hT.lt
  clear hT
  go_wp2_with fail
  refine (within_any _ _ _ _).mono ?_
  rintro e w1 ⟨rfl, rfl⟩
  rcases h1 : withinB r.nb 1 6
  case false =>
    clear h1
    go_wp2
    go_ret
    exact ⟨rfl, hb0⟩
  go_wp2_with fail
  refine (within_any _ _ _ _).mono ?_
  rintro e w1 ⟨rfl, rfl⟩
  rcases h2 : withinB r.nm 1 6
  case false =>
    clear h1 h2
    go_wp2
    go_ret
    exact ⟨rfl, hb0⟩
  go_wp2_with fail
  refine (within_any _ _ _ _).mono ?_
  rintro e w1 ⟨rfl, rfl⟩
  rcases h3 : withinB r.most 0 100000
  case false =>
    clear h1 h2 h3
    go_wp2
    go_ret
    exact ⟨rfl, hb0⟩
  have z : decide ((r.n : Int) ≤ 14) = false := by simp; omega
  clear h1 h2 h3
  go_wp2
  go_ret
  exact ⟨rfl, hb0⟩
set_option maxHeartbeats 4000000 in
theorem check_big (r : Rnd) (oa : Option Addr) (ca : Nat) (off : Int) (w : World) (h4 : ¬ r.n ≤ 14) (hn : r.n ≤ 9223372036854775807) :
    Calls Tryd.prog 32 #[r.val oa ca, .int .i64 off] w fun e w' => e = .returned (.int .i64 1) ∧ Below w.heap.size w w' := by
  go_enter Tryd.func32, Tryd.ntmps32
  go_wp2_with fail
  have hb0 := below_alloc1 w (.cells #[.int .i64 r.nb, .int .i64 r.nm, .int .i64 r.most, .slice oa r.n ca] 24)
  obtain ⟨W, hW⟩ : ∃ X, X = w.alloc (.cells #[.int .i64 r.nb, .int .i64 r.nm, .int .i64 r.most, .slice oa r.n ca] 24) := ⟨_, rfl⟩
  rw [← hW] at hb0 ⊢
  clear hW
  refine (isRound_big r oa ca _ h4 hn).mono ?_
  rintro e w1 ⟨rfl, hb1⟩
  have hb2 := hb0.trans (hb1.mono hb0.size)
  go_wp2
  go_ret
  exact ⟨rfl, hb2⟩
set_option maxRecDepth 100000 in
set_option maxHeartbeats 8000000 in
theorem convict_big (r : Rnd) (oa : Option Addr) (ca : Nat) (w : World) (h4 : ¬ r.n ≤ 14) (hn : r.n ≤ 9223372036854775807) :
    Calls Tryd.prog 14 #[r.val oa ca] w fun e w' => e = .returned (.tuple #[.int .i64 0, .int .i64 1]) ∧ Below w.heap.size w w' := by
  refine calls_of_wp_marks Tryd.func14 rfl ?_
  simp only [Tryd.ntmps14, List.size_toArray, List.length_cons, List.length_nil, Nat.reduceAdd, Nat.reduceSub, Array.replicate_succ, Array.replicate_zero, List.push_toArray, List.append_toArray, List.nil_append, List.cons_append]
  go_wp2_with fail
  have hb0 := ((below_alloc1 w (.cells #[.int .i64 r.nb, .int .i64 r.nm, .int .i64 r.most, .slice oa r.n ca] 24)).alloc (by simp) (.cells #[.int .i64 0] 3)).alloc (by simp; omega) (.cells #[.int .i64 0] 26)
  have hS2 := (Box.new (g := w.heap.size + 1) #[.int .i64 0] 3 (w.alloc (.cells #[.int .i64 r.nb, .int .i64 r.nm, .int .i64 r.most, .slice oa r.n ca] 24)) (by simp)).old (.cells #[.int .i64 0] 26)
  have hS3 := Box.new (g := w.heap.size + 2) #[.int .i64 0] 26 ((w.alloc (.cells #[.int .i64 r.nb, .int .i64 r.nm, .int .i64 r.most, .slice oa r.n ca] 24)).alloc (.cells #[.int .i64 0] 3)) (by simp)
  obtain ⟨W, hW⟩ : ∃ X, X = ((w.alloc (.cells #[.int .i64 r.nb, .int .i64 r.nm, .int .i64 r.most, .slice oa r.n ca] 24)).alloc (.cells #[.int .i64 0] 3)).alloc (.cells #[.int .i64 0] 26) := ⟨_, rfl⟩
  rw [← hW] at hb0 hS2 hS3 ⊢
  clear hW
  have e2 : w.heap.size + 1 + 1 = w.heap.size + 2 := rfl
  rw [e2]
  obtain ⟨g3, hg3⟩ : ∃ G, G = w.heap.size + 2 := ⟨_, rfl⟩
  obtain ⟨g2, hg2⟩ : ∃ G, G = w.heap.size + 1 := ⟨_, rfl⟩
  rw [← hg3] at hS3 ⊢
  rw [← hg2] at hS2 ⊢
  have HG2 := Lib.hid (show w.heap.size ≤ g2 by omega)
  have HG3 := Lib.hid (show w.heap.size ≤ g3 by omega)
  have HN23 := Lib.hid (show g2 ≠ g3 by omega)
  clear hg2 hg3 e2
  refine (check_big r oa ca (-1) _ h4 hn).mono ?_
  rintro e w1 ⟨rfl, hb1⟩
  have HS2 := Lib.hid (hS2.below hb1)
  have HS3 := Lib.hid (hS3.below hb1)
  have HL := Lib.hid (hb0.trans (hb1.mono hb0.size))
  clear hb1 hb0 hS2 hS3
  have c2 := HS2.out.cell 0 rfl
  have f2 := HS2.out.frozen 0
  have l2 := HS2.out.lt
  have c3 := HS3.out.cell 0 rfl
  have f3 := HS3.out.frozen 0
  have l3 := HS3.out.lt
  have hne := HN23.out
  go_wp2
  refine leave_plain (.inl rfl) (res2 rfl _ _ g2 g3 0 1 rfl rfl ((HS2.out.set 0 _).other hne 0 _) ((HS3.out.other (Ne.symm hne) 0 _).set 0 _)) ⟨rfl, (HL.out.setCell HG2.out _).setCell HG3.out _⟩
end Go.Proofs.YtldodmfmibeoiaaDoor
