/- Zone: sums of spans. -/
import Derived.Test.YtipnaeijbbbdoaaW3
namespace Go.Proofs.Ytipnaeijbbbdoaa
open Go.RowKit
def sumN (f : Nat → Int) : Nat → Int
  | 0 => 0
  | k + 1 => sumN f k + f k
theorem sumN_bd {f : Nat → Int} {B : Int} : ∀ {k : Nat}, (∀ i, i < k → 0 ≤ f i ∧ f i ≤ B) → 0 ≤ sumN f k ∧ sumN f k ≤ (k : Int) * B
  | 0, _ => by simp [sumN]
  | k + 1, h => by
    have h1 := sumN_bd (k := k) fun i hi => h i (by omega)
    have h2 := h k (by omega)
    have h3 : ((k + 1 : Nat) : Int) * B = (k : Int) * B + B := by rw [Int.natCast_add, Int.add_mul]; simp
    simp only [sumN]
    omega
theorem sumN_congr {f g : Nat → Int} : ∀ {k : Nat}, (∀ i, i < k → f i = g i) → sumN f k = sumN g k
  | 0, _ => rfl
  | k + 1, h => by simp only [sumN]; rw [sumN_congr fun i hi => h i (by omega), h k (by omega)]
set_option maxRecDepth 100000 in
set_option maxHeartbeats 4000000 in
theorem sum_any (oa : Option Addr) (n ca : Nat) (t : Nat → Spn) (w : World) (hn : n ≤ 12) (ht : ∀ i, i < n → 0 ≤ (t i).lo ∧ (t i).lo ≤ (t i).hi ∧ (t i).hi ≤ 1073741824) (hA : SpnsAt w oa n t) :
    Calls Try.prog 60 #[.slice oa n ca] w fun e w' => e = .returned (.tuple #[.int .i64 (sumN (fun i => (t i).lo) n), .int .i64 (sumN (fun i => (t i).hi) n)]) ∧ Below w.heap.size w w' := by
  have HA := Lib.hid hA
  have HB := Lib.hid (fun (k : Nat) (hk : k ≤ n) => show 0 ≤ sumN (fun i => (t i).lo) k ∧ sumN (fun i => (t i).lo) k ≤ (k : Int) * 1073741824 from sumN_bd fun i hi => by have := ht i (by omega); omega)
  have HB2 := Lib.hid (fun (k : Nat) (hk : k ≤ n) => show 0 ≤ sumN (fun i => (t i).hi) k ∧ sumN (fun i => (t i).hi) k ≤ (k : Int) * 1073741824 from sumN_bd fun i hi => by have := ht i (by omega); omega)
  have HT := Lib.hid ht
  clear hA ht
  go_enter Try.func60, Try.ntmps60
  go_wp2_with fail
  go_loopw [2, 3, 9] (fun v2 v3 v9 wr => ∃ k : Nat, k ≤ n ∧ v9 = .int .i64 k ∧ v2 = .int .i64 (sumN (fun i => (t i).lo) k) ∧ v3 = .int .i64 (sumN (fun i => (t i).hi) k) ∧ Hid (Below w.heap.size w wr)) (fun _ _ v9 _ => n - (intOf v9).toNat)
  case atStart => exact ⟨0, by omega, rfl, rfl, rfl, Lib.hid (Below.refl _ _)⟩
  case round =>
    obtain ⟨k, hk, rfl, rfl, rfl, HL⟩ := hrel
    by_cases hlt : k < n
    · obtain ⟨b, off, rfl, hl, c0, c1⟩ := (HA.out.mono HL.out) k hlt
      have hb1 := HB.out k hk
      have hb2 := HB2.out k hk
      have hb3 := HT.out k hlt
      have HS1 := Lib.hid (show sumN (fun i => (t i).lo) (k + 1) = sumN (fun i => (t i).lo) k + (t k).lo from rfl)
      have HS2 := Lib.hid (show sumN (fun i => (t i).hi) (k + 1) = sumN (fun i => (t i).hi) k + (t k).hi from rfl)
      have hk12 : (k : Int) ≤ 12 := by omega
      obtain ⟨S1, hS1⟩ : ∃ S, S = sumN (fun i => (t i).lo) k := ⟨_, rfl⟩
      obtain ⟨S2, hS2⟩ : ∃ S, S = sumN (fun i => (t i).hi) k := ⟨_, rfl⟩
      rw [← hS1] at hb1 HS1 ⊢
      rw [← hS2] at hb2 HS2 ⊢
      obtain ⟨T, hT⟩ : ∃ T, T = t k := ⟨_, rfl⟩
      rw [← hT] at c0 c1 hb3 HS1 HS2
      clear hT hS1 hS2
      obtain ⟨tlo, thi⟩ := T
      simp only at c0 c1 hb3 HS1 HS2
      have hk0 : (0 : Int) ≤ (k : Int) := by omega
      have hk1 : (k : Int) < (n : Int) := by omega
      obtain ⟨b11, b12⟩ := hb1
      obtain ⟨b21, b22⟩ := hb2
      obtain ⟨b31, b32, b33⟩ := hb3
      have b13 : S1 ≤ 12884901888 := by omega
      have b23 : S2 ≤ 12884901888 := by omega
      clear b12 b22
      go_upto_region 5 with fail
      have hbl := (HL.out.alloc HL.out.size (.cells #[.int .i64 tlo, .int .i64 thi] 41)).alloc (by have := HL.out.size; simp; omega) (.cells #[.int .i64 tlo, .int .i64 thi] 40)
      have hbx := Box.new (g := wr.heap.size + 1) #[.int .i64 tlo, .int .i64 thi] 40 (wr.alloc (.cells #[.int .i64 tlo, .int .i64 thi] 41)) (by simp)
      obtain ⟨gz, hG⟩ : ∃ G, G = wr.heap.size + 1 := ⟨_, rfl⟩
      obtain ⟨w1, hW⟩ : ∃ X, X = (wr.alloc (.cells #[.int .i64 tlo, .int .i64 thi] 41)).alloc (.cells #[.int .i64 tlo, .int .i64 thi] 40) := ⟨_, rfl⟩
      rw [← hW] at hbl hbx ⊢
      rw [← hG] at hbx ⊢
      clear hG hW c0 c1 hl
      have q0 : ∀ V : Aft w1, V.val.cell? ⟨gz, 0, none⟩ = some (.int .i64 tlo) := fun V => (hbx.below V.below).cell 0 rfl
      have q1 : ∀ V : Aft w1, V.val.cell? ⟨gz, 1, none⟩ = some (.int .i64 thi) := fun V => (hbx.below V.below).cell 1 rfl
      have q9 : ∀ V : Aft w1, gz < V.val.heap.size := fun V => (hbx.below V.below).lt
      refine wp_region_aft (by kernel_rfl) (by kernel_rfl) ?_
      repeat (go_big_quiet_step (fail))
      refine wpQuiet_nil ?_
      intro WA
      obtain ⟨wy, hwy⟩ : ∃ X, X = WA.val := ⟨_, rfl⟩
      have hby := WA.below
      rw [← hwy] at hby ⊢
      clear hwy WA
      have HL2 := Lib.hid (hbl.trans (hby.mono hbl.size))
      clear q0 q1 q9 hby hbl hbx HL
      go_wp2_with fail
      go_roundw
      case rel => exact ⟨k + 1, by omega, by go_num, by rw [HS1.out], by rw [HS2.out], HL2⟩
      case measure => simp [intOf]; omega
    · obtain rfl : k = n := by omega
      go_wp2_with fail
      refine bodyPost_ret (v := .tuple #[.int .i64 (sumN (fun i => (t i).lo) k), .int .i64 (sumN (fun i => (t i).hi) k)]) (by simp [results, Try.results60, go_sem]) rfl ⟨rfl, HL.out⟩
end Go.Proofs.Ytipnaeijbbbdoaa
