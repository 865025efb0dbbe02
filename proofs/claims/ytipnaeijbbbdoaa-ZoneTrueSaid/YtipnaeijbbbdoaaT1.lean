/- Zone: the closure of truth that draws, and about. -/
import Derived.Test.YtipnaeijbbbdoaaU16
import Derived.Test.YtipnaeijbbbdoaaR2
namespace Go.Proofs.Ytipnaeijbbbdoaa
open Go.RowKit
/-- what is drawn -/
def drw (v : Nat → Nat) (h i k : Nat) : Nat := (v ((7 * i + k) % h) + 31 * i) % 65536
theorem drw_lt (v : Nat → Nat) (h i k : Nat) : drw v h i k < 65536 := Nat.mod_lt _ (by omega)
set_option maxRecDepth 100000 in
set_option maxHeartbeats 4000000 in
theorem draw_any (i k h cb bb : Nat) (K : Int) (ob : Option Addr) (u : Nat → Nat) (w : World) (hi : i ≤ 20) (hK : K = (k : Int)) (hk : k ≤ 20) (hm : 0 < h) (hm2 : h ≤ 9223372036854775807)
    (hB : Box bb #[.slice ob h cb] 36 w) (hU : U16sAt w ob h u) :
    Calls Try.prog 50 #[.int .i64 i, .int .i64 K, .pointer (some ⟨bb, 0, none⟩)] w fun e w' => e = .returned (.int .u16 (drw u h i k : Nat)) ∧ Below w.heap.size w w' := by
  have HPV := Lib.hid (show drw u h i k = (u ((7 * i + k) % h) + 31 * i) % 65536 from rfl)
  obtain ⟨V, hV⟩ : ∃ V, V = drw u h i k := ⟨_, rfl⟩
  rw [← hV] at HPV ⊢
  clear hV
  obtain ⟨kk, hkk⟩ : ∃ x, x = (7 * i + k) % h := ⟨_, rfl⟩
  have hlt : kk < h := by rw [hkk]; exact Nat.mod_lt _ hm
  obtain ⟨hv, b, off, hob, hl, c0⟩ := hU kk hlt
  subst hob
  have t1 : (7 * (i : Int) + K).tmod (h : Int) = (kk : Int) := by
    rw [hK, Int.tmod_eq_emod_of_nonneg (by omega), hkk]
    have : (7 * (i : Int) + (k : Int)) = ((7 * i + k : Nat) : Int) := by omega
    rw [this]
    exact (Int.natCast_emod _ h).symm
  rw [← hkk] at HPV
  clear hkk
  obtain ⟨U, hU9⟩ : ∃ U, U = u kk := ⟨_, rfl⟩
  rw [← hU9] at hv c0 HPV
  clear hU9 hU
  have x1 : ((h : Int) == 0) = false := by simp; omega
  have x2 : (h : Int) ≠ 0 := by omega
  have k0 : (0 : Int) ≤ (kk : Int) := by omega
  have k1 : (kk : Int) < (h : Int) := by omega
  have hK0 : 0 ≤ K ∧ K ≤ 20 := by omega
  have hi0 : 0 ≤ (i : Int) ∧ (i : Int) ≤ 20 := by omega
  clear hK hk
  have HB := Lib.hid hB
  have HC := Lib.hid (show ∀ V, Below w.heap.size w V → b < V.heap.size ∧ V.cell? ⟨b, off + kk, none⟩ = some (.int .u16 (U : Nat)) from fun V h9 => ⟨Nat.lt_of_lt_of_le hl h9.size, (h9.cell (p := ⟨b, off + kk, none⟩) hl).trans c0⟩)
  clear hB hl c0
  go_enter Try.func50, Try.ntmps50
  go_upto_region 1 with fail
  have q3 : ∀ V : Aft w, V.val.cell? ⟨bb, 0, none⟩ = some (.slice (some ⟨b, off, none⟩) h cb) := fun V => (HB.out.below V.below).cell 0 rfl
  have q4 : ∀ V : Aft w, bb < V.val.heap.size := fun V => (HB.out.below V.below).lt
  have q5 : ∀ V : Aft w, V.val.cell? ⟨b, off + kk, none⟩ = some (.int .u16 (U : Nat)) := fun V => (HC.out _ V.below).2
  have q6 : ∀ V : Aft w, b < V.val.heap.size := fun V => (HC.out _ V.below).1
  refine wp_region_aft (by kernel_rfl) (by kernel_rfl) ?_
  repeat (go_big_quiet_step (fail))
  refine wpQuiet_nil ?_
  intro WA
  obtain ⟨wy, hwy⟩ : ∃ X, X = WA.val := ⟨_, rfl⟩
  have hby := WA.below
  rw [← hwy] at hby ⊢
  clear hwy WA
  clear q3 q4 q5 q6
  go_wp2_with fail
  go_ret
  exact ⟨by rw [HPV.out]; congr 2, hby⟩
set_option maxRecDepth 100000 in
set_option maxHeartbeats 4000000 in
theorem about_any (c : Int) (a b : Nat) (w : World) (h0 : 0 ≤ c) (h1 : c ≤ 1000000000) (ha : a < 65536) (hb : b < 65536) :
    Calls Try.prog 51 #[.int .i64 c, .int .u16 (a : Nat), .int .u16 (b : Nat)] w fun e w' => e = .returned (.agg #[.int .i64 (max 0 (c - ((a % 300 : Nat) : Int))), .int .i64 (c + ((b % 300 : Nat) : Int))]) ∧ Below w.heap.size w w' := by
  have t1 : (a : Int).tmod 300 = ((a % 300 : Nat) : Int) := by rw [Int.tmod_eq_emod_of_nonneg (by omega)]; exact (Int.natCast_emod a 300).symm
  have t2 : (b : Int).tmod 300 = ((b % 300 : Nat) : Int) := by rw [Int.tmod_eq_emod_of_nonneg (by omega)]; exact (Int.natCast_emod b 300).symm
  have r1 : ((a % 300 : Nat) : Int) < 300 := by omega
  have r2 : ((b % 300 : Nat) : Int) < 300 := by omega
  obtain ⟨x, hx⟩ : ∃ x, x = a % 300 := ⟨_, rfl⟩
  obtain ⟨y, hy⟩ : ∃ y, y = b % 300 := ⟨_, rfl⟩
  rw [← hx] at t1 r1 ⊢
  rw [← hy] at t2 r2 ⊢
  clear hx hy
  obtain ⟨m, hm⟩ : ∃ m, m = max 0 (c - (x : Int)) := ⟨_, rfl⟩
  have hmx : (if (x : Int) < c then c - (x : Int) else 0) = m := by rw [hm]; split <;> omega
  have HM := Lib.hid (show 0 ≤ m ∧ m ≤ c by omega)
  rw [← hm]
  clear hm
  go_enter Try.func51, Try.ntmps51
  go_upto_region 1 with fail
  have hbl := below_alloc1 w (.cells #[.int .i64 0, .int .i64 0] 41)
  have hbx := Box.new (g := w.heap.size) #[.int .i64 0, .int .i64 0] 41 w rfl
  obtain ⟨g6, hG⟩ : ∃ G, G = w.heap.size := ⟨_, rfl⟩
  obtain ⟨w2, hW⟩ : ∃ X, X = w.alloc (.cells #[.int .i64 0, .int .i64 0] 41) := ⟨_, rfl⟩
  rw [← hW] at hbl hbx ⊢
  rw [← hG] at hbx ⊢
  have HG := Lib.hid (show w.heap.size ≤ g6 by omega)
  have HL := Lib.hid hbl
  have H6 := Lib.hid hbx
  clear hbl hbx hG hW
  go_wp2_with fail
  refine (lspan_any _ _ _).mono ?_
  rintro e w3 ⟨rfl, hb⟩
  replace HL := Lib.hid (HL.out.trans (hb.mono HL.out.size))
  replace H6 := Lib.hid (H6.out.below hb)
  clear hb
  have d0 := H6.out.cell 0 (v := .int .i64 0) rfl
  have d1 := H6.out.cell 1 (v := .int .i64 0) rfl
  have d2 := H6.out.frozen 0
  have d3 := H6.out.frozen 1
  have d4 := H6.out.lt
  go_wp2_with fail
  clear d0 d1 d2 d3 d4
  refine bodyPost_ret (res41 rfl _ _ g6 _ _ rfl (H6.out.set2 (.int .i64 m) (.int .i64 (c + (y : Int))))) rfl ⟨rfl, ((HL.out.setCell (p := ⟨g6, 0, none⟩) HG.out _).setCell (p := ⟨g6, 1, none⟩) HG.out _)⟩
end Go.Proofs.Ytipnaeijbbbdoaa
