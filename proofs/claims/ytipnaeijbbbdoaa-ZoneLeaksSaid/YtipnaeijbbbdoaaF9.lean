/- Zone: the closures of ZoneFirst. -/
import Derived.Test.YtipnaeijbbbdoaaU16
namespace Go.Proofs.Ytipnaeijbbbdoaa
open Go.RowKit
/-- one of a span's numbers, by a remainder -/
def pickV (s : Spn) (k m : Nat) (u : Nat → Nat) : Int := s.lo + ((u (k % m) : Nat) : Int) % (s.hi - s.lo + 1)
theorem pickV_in {s : Spn} {k m : Nat} {u : Nat → Nat} (h : s.lo ≤ s.hi) : s.lo ≤ pickV s k m u ∧ pickV s k m u ≤ s.hi := by
  have h1 := Int.emod_nonneg ((u (k % m) : Nat) : Int) (b := s.hi - s.lo + 1) (by omega)
  have h2 := Int.emod_lt_of_pos ((u (k % m) : Nat) : Int) (b := s.hi - s.lo + 1) (by omega)
  unfold pickV
  omega
set_option maxRecDepth 100000 in
set_option maxHeartbeats 4000000 in
theorem pick_any (s : Spn) (K : Int) (k m cb bb : Nat) (ob : Option Addr) (u : Nat → Nat) (w : World) (hK : K = (k : Int)) (hk : k ≤ 1000) (hm : 0 < m) (hm2 : m ≤ 9223372036854775807) (h0 : 0 ≤ s.lo) (h1 : s.lo ≤ s.hi) (h2 : s.hi ≤ 1073741824)
    (hB : Box bb #[.slice ob m cb] 36 w) (hU : U16sAt w ob m u) :
    Calls Try.prog 27 #[s.val, .int .i64 K, .pointer (some ⟨bb, 0, none⟩)] w fun e w' => e = .returned (.int .i64 (pickV s k m u)) ∧ Below w.heap.size w w' := by
  have HPV := Lib.hid (show pickV s k m u = s.lo + ((u (k % m) : Nat) : Int) % (s.hi - s.lo + 1) from rfl)
  obtain ⟨V, hV⟩ : ∃ V, V = pickV s k m u := ⟨_, rfl⟩
  rw [← hV] at HPV ⊢
  clear hV
  obtain ⟨lo, hi⟩ := s
  simp only at h0 h1 h2 HPV
  obtain ⟨kk, hkk⟩ : ∃ x, x = k % m := ⟨_, rfl⟩
  have hlt : kk < m := by rw [hkk]; exact Nat.mod_lt _ hm
  obtain ⟨hv, b, off, hob, hl, c0⟩ := hU kk hlt
  subst hob
  have t1 : K.tmod (m : Int) = (kk : Int) := by
    rw [hK, Int.tmod_eq_emod_of_nonneg (by omega), hkk]
    exact (Int.natCast_emod k m).symm
  rw [← hkk] at HPV
  clear hkk
  obtain ⟨U, hU9⟩ : ∃ U, U = u kk := ⟨_, rfl⟩
  rw [← hU9] at hv c0 HPV
  clear hU9 hU
  have r1 := Int.emod_nonneg (U : Int) (b := hi - lo + 1) (by omega)
  have r2 := Int.emod_lt_of_pos (U : Int) (b := hi - lo + 1) (by omega)
  have t2 : (U : Int).tmod (hi - lo + 1) = (U : Int) % (hi - lo + 1) := Int.tmod_eq_emod_of_nonneg (by omega)
  obtain ⟨r, hr⟩ : ∃ r, r = (U : Int) % (hi - lo + 1) := ⟨_, rfl⟩
  rw [← hr] at r1 r2 t2 HPV
  clear hr
  have x1 : ((m : Int) == 0) = false := by simp; omega
  have x2 : (m : Int) ≠ 0 := by omega
  have x3 : (hi - lo + 1 == 0) = false := by simp; omega
  have x4 : hi - lo + 1 ≠ 0 := by omega
  have k0 : (0 : Int) ≤ (kk : Int) := by omega
  have k1 : (kk : Int) < (m : Int) := by omega
  have hK0 : 0 ≤ K ∧ K ≤ 1000 := by omega
  clear hK hk
  go_enter Try.func27, Try.ntmps27
  go_upto_region 1 with fail
  have hbl := below_alloc1 w (.cells #[.int .i64 lo, .int .i64 hi] 41)
  have hbx := Box.new (g := w.heap.size) #[.int .i64 lo, .int .i64 hi] 41 w rfl
  have HB := Lib.hid (hB.old (.cells #[.int .i64 lo, .int .i64 hi] 41))
  obtain ⟨gz, hG⟩ : ∃ G, G = w.heap.size := ⟨_, rfl⟩
  obtain ⟨w2, hW⟩ : ∃ X, X = w.alloc (.cells #[.int .i64 lo, .int .i64 hi] 41) := ⟨_, rfl⟩
  have HC := Lib.hid (show ∀ V, Below w2.heap.size w2 V → b < V.heap.size ∧ V.cell? ⟨b, off + kk, none⟩ = some (.int .u16 (U : Nat)) from fun V h => by
    have h9 : Below w.heap.size w V := by rw [hW] at h; exact hbl.trans (h.mono hbl.size)
    exact ⟨Nat.lt_of_lt_of_le hl h9.size, (h9.cell (p := ⟨b, off + kk, none⟩) hl).trans c0⟩)
  rw [← hW] at hbl hbx HB ⊢
  rw [← hG] at hbx ⊢
  have HL := Lib.hid hbl
  have HBX := Lib.hid hbx
  clear hbl hbx hG hW hB hl c0
  have q0 : ∀ V : Aft w2, V.val.cell? ⟨gz, 0, none⟩ = some (.int .i64 lo) := fun V => (HBX.out.below V.below).cell 0 rfl
  have q1 : ∀ V : Aft w2, V.val.cell? ⟨gz, 1, none⟩ = some (.int .i64 hi) := fun V => (HBX.out.below V.below).cell 1 rfl
  have q2 : ∀ V : Aft w2, gz < V.val.heap.size := fun V => (HBX.out.below V.below).lt
  have q3 : ∀ V : Aft w2, V.val.cell? ⟨bb, 0, none⟩ = some (.slice (some ⟨b, off, none⟩) m cb) := fun V => (HB.out.below V.below).cell 0 rfl
  have q4 : ∀ V : Aft w2, bb < V.val.heap.size := fun V => (HB.out.below V.below).lt
  have q5 : ∀ V : Aft w2, V.val.cell? ⟨b, off + kk, none⟩ = some (.int .u16 (U : Nat)) := fun V => (HC.out _ V.below).2
  have q6 : ∀ V : Aft w2, b < V.val.heap.size := fun V => (HC.out _ V.below).1
  refine wp_region_aft (by kernel_rfl) (by kernel_rfl) ?_
  repeat (go_big_quiet_step (fail))
  refine wpQuiet_nil ?_
  intro WA
  obtain ⟨wy, hwy⟩ : ∃ X, X = WA.val := ⟨_, rfl⟩
  have hby := WA.below
  rw [← hwy] at hby ⊢
  clear hwy WA
  clear q0 q1 q2 q3 q4 q5 q6
  go_wp2_with fail
  go_ret
  exact ⟨by rw [HPV.out]; rfl, HL.out.trans (hby.mono HL.out.size)⟩
/-- what the closure of ZoneFirst reads -/
structure Kn (oa : Option Addr) (n ca g4 g13 g9 : Nat) (bD oD cD bL oL cL : Nat) (W : World) : Prop where
  z : Box g4 #[.slice oa n ca] 22 W
  d : Box g13 #[.slice (some ⟨bD, oD, none⟩) n cD] 24 W
  l : Box g9 #[.slice (some ⟨bL, oL, none⟩) n cL] 24 W
theorem Kn.below {oa : Option Addr} {n ca g4 g13 g9 : Nat} {bD oD cD bL oL cL : Nat} {W V : World} (h : Kn oa n ca g4 g13 g9 bD oD cD bL oL cL W) (hb : Below W.heap.size W V) : Kn oa n ca g4 g13 g9 bD oD cD bL oL cL V := ⟨h.z.below hb, h.d.below hb, h.l.below hb⟩
set_option maxRecDepth 100000 in
set_option maxHeartbeats 4000000 in
theorem known_no (oa : Option Addr) (n ca g4 g13 g9 : Nat) (bD oD cD bL oL cL : Nat) (z : Nat → Zon) (i : Nat) (w : World) (hn : n ≤ 16) (hA : ZonsAt w oa n z) (hK : Kn oa n ca g4 g13 g9 bD oD cD bL oL cL w) (hl : ¬ Leaf z n i) :
    Calls Try.prog 28 #[.int .i64 i, .pointer (some ⟨g4, 0, none⟩), .pointer (some ⟨g13, 0, none⟩), .pointer (some ⟨g9, 0, none⟩)] w fun e w' => e = .returned (.tuple #[.int .i64 0, .bool false]) ∧ Below w.heap.size w w' := by
  have HA := Lib.hid hA
  have HK := Lib.hid hK
  have HNL := Lib.hid hl
  clear hA hK hl
  go_enter Try.func28, Try.ntmps28
  go_wp2_with fail
  go_loopw [7] (fun v7 wr => ∃ k : Nat, k ≤ n ∧ v7 = .int .i64 k ∧ Hid (Below w.heap.size w wr) ∧ Hid (∀ c, c < k → (z c).p ≠ (i : Int))) (fun v7 _ => n - (intOf v7).toNat)
  case atStart => exact ⟨0, Nat.zero_le _, rfl, Lib.hid (Below.refl _ _), Lib.hid fun c hc => by omega⟩
  case round =>
    obtain ⟨k, hk, rfl, HL, HN⟩ := hrel
    have c1 := (HK.out.below HL.out).z.cell 0 (v := .slice oa n ca) rfl
    have l1 := (HK.out.below HL.out).z.lt
    by_cases hlt : k < n
    · obtain ⟨b, off, hoa, hl, -, -, -, -, -, -, -, -, c8⟩ := (HA.out.mono HL.out) k hlt
      subst hoa
      have hk0 : (0 : Int) ≤ (k : Int) := by omega
      have hk1 : (k : Int) < (n : Int) := by omega
      obtain ⟨pp, hpp⟩ : ∃ v, v = (z k).p := ⟨_, rfl⟩
      rw [← hpp] at c8
      by_cases hp : pp = (i : Int)
      · rw [hp] at c8
        have hpb : ((i : Int) == (i : Int)) = true := by simp
        clear hpp hp
        go_wp2_with fail
        refine bodyPost_ret (v := .tuple #[.int .i64 0, .bool false]) (by simp [results, Try.results28, go_sem]) rfl ⟨rfl, HL.out⟩
      · have HN2 := Lib.hid (show ∀ c, c < k + 1 → (z c).p ≠ (i : Int) from fun c hc => by
          by_cases h9 : c = k
          · subst h9; rw [← hpp]; exact hp
          · exact HN.out c (by omega))
        have hpb : (pp == (i : Int)) = false := by simpa using hp
        clear hpp hp
        go_wp2_with fail
        go_roundw
        case rel => exact ⟨k + 1, by omega, by go_num, HL, HN2⟩
        case measure => simp [intOf]; omega
    · have hkn : n = k := by omega
      subst hkn
      exact absurd HN.out HNL.out
set_option maxRecDepth 100000 in
set_option maxHeartbeats 4000000 in
theorem known_yes (oa : Option Addr) (n ca g4 g13 g9 : Nat) (bD oD cD bL oL cL : Nat) (z : Nat → Zon) (sD sL : Nat → Spn) (i : Nat) (w : World) (hn : n ≤ 16) (hi : i < n) (hA : ZonsAt w oa n z) (hD : SpnsAt w (some ⟨bD, oD, none⟩) n sD) (hL : SpnsAt w (some ⟨bL, oL, none⟩) n sL) (hK : Kn oa n ca g4 g13 g9 bD oD cD bL oL cL w) (hl : Leaf z n i) :
    Calls Try.prog 28 #[.int .i64 i, .pointer (some ⟨g4, 0, none⟩), .pointer (some ⟨g13, 0, none⟩), .pointer (some ⟨g9, 0, none⟩)] w fun e w' => e = .returned (.tuple #[.int .i64 (knV (sD i) (sL i)), .bool true]) ∧ Below w.heap.size w w' := by
  have HA := Lib.hid hA
  have HK := Lib.hid hK
  have HLF := Lib.hid hl
  have HD := Lib.hid hD
  have HSL := Lib.hid hL
  have HKV := Lib.hid (show knV (sD i) (sL i) = max (sD i).lo (min (sL i).lo (sD i).hi) from rfl)
  clear hA hK hl hD hL
  go_enter Try.func28, Try.ntmps28
  go_wp2_with fail
  go_loopw [7] (fun v7 wr => ∃ k : Nat, k ≤ n ∧ v7 = .int .i64 k ∧ Hid (Below w.heap.size w wr)) (fun v7 _ => n - (intOf v7).toNat)
  case atStart => exact ⟨0, Nat.zero_le _, rfl, Lib.hid (Below.refl _ _)⟩
  case round =>
    obtain ⟨k, hk, rfl, HL⟩ := hrel
    have c1 := (HK.out.below HL.out).z.cell 0 (v := .slice oa n ca) rfl
    have l1 := (HK.out.below HL.out).z.lt
    by_cases hlt : k < n
    · obtain ⟨b, off, hoa, hl, -, -, -, -, -, -, -, -, c8⟩ := (HA.out.mono HL.out) k hlt
      subst hoa
      have hk0 : (0 : Int) ≤ (k : Int) := by omega
      have hk1 : (k : Int) < (n : Int) := by omega
      have hp := HLF.out k hlt
      obtain ⟨pp, hpp⟩ : ∃ v, v = (z k).p := ⟨_, rfl⟩
      rw [← hpp] at c8 hp
      have hpb : (pp == (i : Int)) = false := by simpa using hp
      clear hpp hp
      go_wp2_with fail
      go_roundw
      case rel => exact ⟨k + 1, by omega, by go_num, HL⟩
      case measure => simp [intOf]; omega
    · have hkn : n = k := by omega
      subst hkn
      have hi0 : (0 : Int) ≤ (i : Int) := by omega
      have hi1 : (i : Int) < (n : Int) := by omega
      go_upto_region 6 with fail
      have HK1 := Lib.hid (HK.out.below HL.out)
      have HF1 := Lib.hid (show ∀ V, Below wr.heap.size wr V → bD < V.heap.size ∧ V.cell? ⟨bD, oD + i * 2, none⟩ = some (.int .i64 (sD i).lo) ∧ V.cell? ⟨bD, oD + i * 2 + 1, none⟩ = some (.int .i64 (sD i).hi) from fun V hV => by
        obtain ⟨b9, o9, e9, h1, h2, h3⟩ := (HD.out.mono (HL.out.trans (hV.mono HL.out.size))) i hi
        cases e9
        exact ⟨h1, h2, h3⟩)
      have HF2 := Lib.hid (show ∀ V, Below wr.heap.size wr V → bL < V.heap.size ∧ V.cell? ⟨bL, oL + i * 2, none⟩ = some (.int .i64 (sL i).lo) from fun V hV => by
        obtain ⟨b9, o9, e9, h1, h2, h3⟩ := (HSL.out.mono (HL.out.trans (hV.mono HL.out.size))) i hi
        cases e9
        exact ⟨h1, h2⟩)
      obtain ⟨D, hD⟩ : ∃ D, D = sD i := ⟨_, rfl⟩
      obtain ⟨L, hL⟩ : ∃ L, L = sL i := ⟨_, rfl⟩
      obtain ⟨V, hV⟩ : ∃ V, V = knV (sD i) (sL i) := ⟨_, rfl⟩
      rw [← hV] at HKV
      have HVV := Lib.hid hV
      rw [← hD] at HKV HF1
      rw [← hL] at HKV HF2
      clear hV hD hL c1 l1
      obtain ⟨dlo, dhi⟩ := D
      obtain ⟨llo, lhi⟩ := L
      simp only at HKV HF1 HF2
      have q0 : ∀ V : Aft wr, V.val.cell? ⟨g13, 0, none⟩ = some (.slice (some ⟨bD, oD, none⟩) n cD) := fun V => (HK1.out.below V.below).d.cell 0 rfl
      have q1 : ∀ V : Aft wr, V.val.cell? ⟨g9, 0, none⟩ = some (.slice (some ⟨bL, oL, none⟩) n cL) := fun V => (HK1.out.below V.below).l.cell 0 rfl
      have q2 : ∀ V : Aft wr, g13 < V.val.heap.size := fun V => (HK1.out.below V.below).d.lt
      have q3 : ∀ V : Aft wr, g9 < V.val.heap.size := fun V => (HK1.out.below V.below).l.lt
      have q4 : ∀ V : Aft wr, V.val.cell? ⟨bD, oD + i * 2, none⟩ = some (.int .i64 dlo) := fun V => (HF1.out V.val V.below).2.1
      have q5 : ∀ V : Aft wr, V.val.cell? ⟨bD, oD + i * 2 + 1, none⟩ = some (.int .i64 dhi) := fun V => (HF1.out V.val V.below).2.2
      have q6 : ∀ V : Aft wr, bD < V.val.heap.size := fun V => (HF1.out V.val V.below).1
      have q7 : ∀ V : Aft wr, V.val.cell? ⟨bL, oL + i * 2, none⟩ = some (.int .i64 llo) := fun V => (HF2.out V.val V.below).2
      have q8 : ∀ V : Aft wr, bL < V.val.heap.size := fun V => (HF2.out V.val V.below).1
      refine wp_region_aft (by kernel_rfl) (by kernel_rfl) ?_
      repeat (go_big_quiet_step (fail))
      refine wpQuiet_nil ?_
      intro WA
      obtain ⟨wy, hwy⟩ : ∃ X, X = WA.val := ⟨_, rfl⟩
      have hby := WA.below
      rw [← hwy] at hby ⊢
      clear hwy WA
      clear q0 q1 q2 q3 q4 q5 q6 q7 q8 HK HK1 HF1 HF2 HD HSL HA
      obtain ⟨mn, hmn⟩ : ∃ x, x = (if dhi < llo then dhi else llo) := ⟨_, rfl⟩
      rw [← hmn]
      have hv : (if dlo < mn then mn else dlo) = V := by rw [HKV.out, hmn]; split <;> split <;> omega
      rw [hv]
      clear hv hmn HKV
      go_wp2_with fail
      refine bodyPost_ret (v := .tuple #[.int .i64 V, .bool true]) (by simp [results, Try.results28, go_sem]) rfl ⟨by rw [HVV.out], HL.out.trans (hby.mono HL.out.size)⟩
end Go.Proofs.Ytipnaeijbbbdoaa
