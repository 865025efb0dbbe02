/- TravelTrue's drawing of numbers: a number between two ends, and the counter one further. -/
import Derived.Test.YtldodmfmibeoiaaDoorV17
namespace Go.Proofs.YtldodmfmibeoiaaDoor
open Go.RowKit
def U16sAt (w : World) (oa : Option Addr) (n : Nat) (q : Nat → Nat) : Prop :=
  ∀ i, i < n → q i < 65536 ∧ ∃ b off, oa = some ⟨b, off, none⟩ ∧ b < w.heap.size ∧ w.cell? ⟨b, off + i, none⟩ = some (.int .u16 (q i : Nat))
/-- the counter's box has been written, and what was made since -/
structure Zed (zb z : Nat) (w w' : World) : Prop where
  os : w'.os = w.os
  tape : w'.tape = w.tape
  output : w'.output = w.output
  size : w.heap.size ≤ w'.heap.size
  block : ∀ k, k < w.heap.size → k ≠ zb → w'.heap[k]? = w.heap[k]?
  box : Box zb #[.int .i64 (z : Nat)] 3 w'
theorem Zed.old {zb z g : Nat} {w w' : World} {cs : Array Value} {t : TypeId} (h : Zed zb z w w') (hb : Box g cs t w) (hne : g ≠ zb) : Box g cs t w' := ⟨(h.block g hb.lt hne).trans hb.row⟩
theorem Zed.below {zb z B : Nat} {w w' : World} (h : Zed zb z w w') (hB : B ≤ zb) (hs : B ≤ w.heap.size) : Below B w w' := ⟨h.os, h.tape, h.output, h.size, fun k hk => h.block k (by omega) (by omega)⟩
theorem u16_wrap (n : Int) : IntKind.u16.wrap n = n % 65536 := by simp [IntKind.wrap, IntKind.bits, IntKind.signed]
theorem pick_in {lo hi : Int} (h : lo ≤ hi) (hb0 : -1000000000000000 ≤ lo) (hb1 : hi ≤ 1000000000000000) (c : Int) : lo ≤ wrap64 (lo + (wrap64 (IntKind.u16.wrap c)).tmod (hi - lo + 1)) ∧ wrap64 (lo + (wrap64 (IntKind.u16.wrap c)).tmod (hi - lo + 1)) ≤ hi := by
  have e : wrap64 (IntKind.u16.wrap c) = c % 65536 := by rw [u16_wrap]; unfold wrap64; omega
  rw [e, Int.tmod_eq_emod_of_nonneg (by omega)]
  have h1 := Int.emod_nonneg (c % 65536) (show hi - lo + 1 ≠ 0 by omega)
  have h2 := Int.emod_lt_of_pos (c % 65536) (show 0 < hi - lo + 1 by omega)
  generalize c % 65536 % (hi - lo + 1) = r at *
  unfold wrap64
  omega
set_option maxRecDepth 100000 in
set_option maxHeartbeats 4000000 in
theorem draw_any (lo hi : Int) (zb kb j : Nat) (ka : Option Addr) (kn kc : Nat) (q : Nat → Nat) (w : World) (h : lo ≤ hi) (hb0 : -1000000000000000 ≤ lo) (hb1 : hi ≤ 1000000000000000) (hj : j ≤ 1000000) (hkn : 0 < kn) (hkn2 : kn ≤ 9223372036854775807)
    (hZ : Box zb #[.int .i64 (j : Nat)] 3 w) (hK : Box kb #[.slice ka kn kc] 41 w) (hne : kb ≠ zb) (hQ : U16sAt w ka kn q) (hqz : ∀ a, ka = some a → a.block ≠ zb) :
    Calls Tryd.prog 49 #[.int .i64 lo, .int .i64 hi, .pointer (some ⟨zb, 0, none⟩), .pointer (some ⟨kb, 0, none⟩)] w fun e w' => (∃ r : Int, e = .returned (.int .i64 r) ∧ lo ≤ r ∧ r ≤ hi) ∧ Zed zb (j + 1) w w' := by
  have HZ := Lib.hid hZ
  have HK := Lib.hid hK
  have HQ := Lib.hid hQ
  have HQZ := Lib.hid hqz
  have zl := hZ.lt
  have z0 := hZ.cell 0 (v := .int .i64 (j : Nat)) rfl
  have z1 := hZ.frozen 0
  clear hZ hK hQ hqz
  go_enter Tryd.func49, Tryd.ntmps49
  go_upto_region 2 with fail
  have KK := HK.out.other (g' := zb) hne 0 (.int .i64 ((j : Int) + 1))
  have KZ := HZ.out.set 0 (.int .i64 ((j : Int) + 1))
  obtain ⟨J, hJ⟩ : ∃ J, J = j + 1 := ⟨_, rfl⟩
  have KZ2 : Box zb #[.int .i64 (J : Nat)] 3 (w.setCell ⟨zb, 0, none⟩ (.int .i64 ((j : Int) + 1))) := by
    rw [show ((J : Nat) : Int) = (j : Int) + 1 by omega]; exact KZ
  have ho := (Only.refl zb w).setCell 0 (.int .i64 ((j : Int) + 1))
  have HO := Lib.hid (show Zed zb J w (w.setCell ⟨zb, 0, none⟩ (.int .i64 ((j : Int) + 1))) from
    ⟨ho.os, ho.tape, ho.output, Nat.le_of_eq ho.size.symm, fun k _ hk2 => ho.block k hk2, KZ2⟩)
  obtain ⟨i, hi9⟩ : ∃ i, i = J % kn := ⟨_, rfl⟩
  have hik : i < kn := by rw [hi9]; exact Nat.mod_lt _ hkn
  have hmk : (J : Int) % (kn : Int) = (i : Int) := by rw [hi9]; simp
  have hmk2 : (J : Int).tmod (kn : Int) = (i : Int) := by rw [Int.tmod_eq_emod_of_nonneg (by omega)]; exact hmk
  have HJ := Lib.hid hJ
  obtain ⟨hq9, qb, qo, rfl, hlt1, u0⟩ := HQ.out i hik
  have hqz9 := HQZ.out _ rfl
  have u1 : (w.setCell ⟨zb, 0, none⟩ (.int .i64 ((j : Int) + 1))).cell? ⟨qb, qo + i, none⟩ = some (.int .u16 (q i : Nat)) :=
    (World.cell?_of_block (w := w) (HO.out.block qb hlt1 hqz9)).trans u0
  have hql : qb < (w.setCell ⟨zb, 0, none⟩ (.int .i64 ((j : Int) + 1))).heap.size := by rw [ho.size]; exact hlt1
  obtain ⟨W0, hW⟩ : ∃ X, X = w.setCell ⟨zb, 0, none⟩ (.int .i64 ((j : Int) + 1)) := ⟨_, rfl⟩
  rw [← hW] at KK KZ2 HO u1 hql ⊢
  clear hW hi9 KZ z0 z1 u0 ho
  have f0 : ∀ W : Aft W0, W.val.cell? ⟨kb, 0, none⟩ = some (.slice (some ⟨qb, qo, none⟩) kn kc) := fun W => (KK.below W.below).cell 0 rfl
  have f1 : ∀ W : Aft W0, W.val.cell? ⟨zb, 0, none⟩ = some (.int .i64 (J : Nat)) := fun W => (KZ2.below W.below).cell 0 rfl
  have f2 : ∀ W : Aft W0, W.val.cell? ⟨qb, qo + i, none⟩ = some (.int .u16 (q i : Nat)) := fun W => (W.below.cell (p := ⟨qb, qo + i, none⟩) hql).trans u1
  have HZ2 := Lib.hid KZ2
  clear KK KZ2 u1 hql
  have hd0 : ((kn : Nat) : Int) ≠ 0 := by omega
  have hx0 : (0 : Int) ≤ (i : Int) := by omega
  have hx1 : (i : Int) < (kn : Int) := by omega
  have hm0 : hi - lo + 1 ≠ 0 := by omega
  have hJ2 : J ≤ 1000001 := by omega
  clear hJ
  refine wp_region_aft (by kernel_rfl) (by kernel_rfl) ?_
  repeat (go_big_quiet_step (fail))
  refine wpQuiet_nil ?_
  intro WA
  obtain ⟨wy, hwy⟩ : ∃ X, X = WA.val := ⟨_, rfl⟩
  have hby := WA.below
  rw [← hwy] at hby ⊢
  clear hwy WA
  go_wp2_with fail
  go_ret
  exact ⟨⟨_, rfl, pick_in h hb0 hb1 _⟩, hby.os.trans HO.out.os, hby.tape.trans HO.out.tape, hby.output.trans HO.out.output, Nat.le_trans HO.out.size hby.size, fun k hk hk2 => (hby.block k (Nat.lt_of_lt_of_le hk HO.out.size)).trans (HO.out.block k hk hk2), by rw [← HJ.out]; exact HZ2.out.below hby⟩
end Go.Proofs.YtldodmfmibeoiaaDoor
