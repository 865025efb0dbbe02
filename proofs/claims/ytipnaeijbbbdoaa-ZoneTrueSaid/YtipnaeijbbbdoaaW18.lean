/- Zone: the law's sample; awake returns true. -/
import Derived.Test.YtipnaeijbbbdoaaW17
namespace Go.Proofs.Ytipnaeijbbbdoaa
open Go.RowKit
/-- three of a kind -/
def tri {α : Type} (a b c : α) : Nat → α
  | 0 => a
  | 1 => b
  | _ => c
/-- the zones of the examples, where the first one's inflow is (a, b) -/
def smpZ (a b : Int) : Nat → Zon := tri ⟨⟨a, b⟩, ⟨7000, 7000⟩, ⟨-20, 20⟩, ⟨100, 300⟩, -1⟩ ⟨⟨6000, 6050⟩, ⟨4000, 4000⟩, ⟨-20, 0⟩, ⟨50, 100⟩, 0⟩ ⟨⟨4000, 4100⟩, ⟨3000, 3000⟩, ⟨0, 20⟩, ⟨50, 100⟩, 0⟩
def smpN : Nat → Nig := tri ⟨⟨100, 110⟩, ⟨20, 40⟩, ⟨20, 24⟩⟩ ⟨⟨50, 60⟩, ⟨30, 40⟩, ⟨20, 24⟩⟩ ⟨⟨40, 50⟩, ⟨0, 10⟩, ⟨10, 12⟩⟩
def smpA : Nat → Spn := tri ⟨2558, 3137⟩ ⟨1819, 2000⟩ ⟨900, 1108⟩
def smpB : Nat → Spn := tri ⟨2719, 3108⟩ ⟨1819, 2000⟩ ⟨900, 1108⟩
def smpC : Nat → Spn := tri ⟨1200, 2160⟩ ⟨200, 720⟩ ⟨300, 600⟩
theorem three {i : Nat} (h : i < 3) : i = 0 ∨ i = 1 ∨ i = 2 := by omega
theorem smp_list : listB 3 (smpZ 10000 10100) = true := by decide +kernel
theorem smp_list2 : listB 3 (smpZ 9000 9100) = true := by decide +kernel
theorem smp_all : AllR (smpZ 10000 10100) 3 := fun i hi => by
  rcases three hi with rfl | rfl | rfl <;> decide +kernel
theorem smp_none : rs (smpZ 9000 9100) 3 0 = none := by decide +kernel
theorem smp_some1 : (rs (smpZ 9000 9100) 3 1).isSome = true := by decide +kernel
theorem smp_some2 : (rs (smpZ 9000 9100) 3 2).isSome = true := by decide +kernel
theorem smp_own : ∀ i, i < 3 → ownS (smpZ 10000 10100 i) = smpA i := fun i hi => by
  rcases three hi with rfl | rfl | rfl <;> decide +kernel
theorem smp_loss : ∀ i, i < 3 → dnF (smpZ 10000 10100) 3 i = smpB i := fun i hi => by
  rcases three hi with rfl | rfl | rfl <;> decide +kernel
theorem smp_leak : ∀ i, i < 3 → leakS (smpN i) = smpC i := fun i hi => by
  rcases three hi with rfl | rfl | rfl <;> decide +kernel
theorem smp_code : leakC 3 3 (smpZ 10000 10100) smpN = 0 := by decide +kernel
theorem smp_leaf1 : Leaf (smpZ 10000 10100) 3 1 := fun c hc => by
  rcases three hc with rfl | rfl | rfl <;> decide +kernel
theorem smp_leaf0 : ¬ Leaf (smpZ 10000 10100) 3 0 := fun h => h 1 (by omega) rfl
theorem smp_first {most x c : Int} (h : FstS (Leaf (smpZ 10000 10100) 3) (fun i => knV (dnF (smpZ 10000 10100) 3 i) (leakS (smpN i))) 3 most x c) : x = 1 ∧ c = 0 := by
  have v1 : knV (dnF (smpZ 10000 10100) 3 1) (leakS (smpN 1)) = 1819 := by decide +kernel
  have v2 : knV (dnF (smpZ 10000 10100) 3 2) (leakS (smpN 2)) = 900 := by decide +kernel
  rcases h with ⟨-, -, -, h⟩ | ⟨hc, y, hy, rfl, hl, hv, -, hle, -⟩
  · have := h 1 (by omega) smp_leaf1
    simp only [v1] at this; omega
  · refine ⟨?_, hc⟩
    have h1 := hle 1 (by omega) smp_leaf1
    simp only [v1] at h1
    rcases three hy with rfl | rfl | rfl
    · exact absurd hl smp_leaf0
    · rfl
    · simp only [v2] at hv; omega
theorem zons_box {a b : Int} {g : Nat} {w : World} {ty : TypeId} (h : Box g #[.int .i64 a, .int .i64 b, .int .i64 7000, .int .i64 7000, .int .i64 (-20), .int .i64 20, .int .i64 100, .int .i64 300, .int .i64 (-1), .int .i64 6000, .int .i64 6050, .int .i64 4000, .int .i64 4000, .int .i64 (-20), .int .i64 0, .int .i64 50, .int .i64 100, .int .i64 0, .int .i64 4000, .int .i64 4100, .int .i64 3000, .int .i64 3000, .int .i64 0, .int .i64 20, .int .i64 50, .int .i64 100, .int .i64 0] ty w) : ZonsAt w (some ⟨g, 0, none⟩) 3 (smpZ a b) := fun i hi => by
  refine ⟨g, 0, rfl, h.lt, ?_⟩
  rcases three hi with rfl | rfl | rfl <;> exact ⟨h.cell _ rfl, h.cell _ rfl, h.cell _ rfl, h.cell _ rfl, h.cell _ rfl, h.cell _ rfl, h.cell _ rfl, h.cell _ rfl, h.cell _ rfl⟩
theorem nigs_box {g : Nat} {w : World} {ty : TypeId} (h : Box g #[.int .i64 100, .int .i64 110, .int .i64 20, .int .i64 40, .int .i64 20, .int .i64 24, .int .i64 50, .int .i64 60, .int .i64 30, .int .i64 40, .int .i64 20, .int .i64 24, .int .i64 40, .int .i64 50, .int .i64 0, .int .i64 10, .int .i64 10, .int .i64 12] ty w) : NigsAt w (some ⟨g, 0, none⟩) 3 smpN := fun i hi => by
  refine ⟨g, 0, rfl, h.lt, ?_⟩
  rcases three hi with rfl | rfl | rfl <;> exact ⟨h.cell _ rfl, h.cell _ rfl, h.cell _ rfl, h.cell _ rfl, h.cell _ rfl, h.cell _ rfl⟩
theorem spns_box {g : Nat} {w : World} {ty : TypeId} {s t u : Spn} (h : Box g #[.int .i64 s.lo, .int .i64 s.hi, .int .i64 t.lo, .int .i64 t.hi, .int .i64 u.lo, .int .i64 u.hi] ty w) : SpnsAt w (some ⟨g, 0, none⟩) 3 (tri s t u) := fun i hi => by
  refine ⟨g, 0, rfl, h.lt, ?_⟩
  rcases three hi with rfl | rfl | rfl <;> exact ⟨h.cell _ rfl, h.cell _ rfl⟩
set_option maxRecDepth 100000 in
set_option maxHeartbeats 8000000 in
theorem sample_any (w : World) :
    Calls Try.prog 29 #[] w fun e w' => ∃ g1 g2, e = .returned (.tuple #[.slice (some ⟨g1, 0, none⟩) 3 3, .slice (some ⟨g2, 0, none⟩) 3 3]) ∧ Box g1 #[.int .i64 10000, .int .i64 10100, .int .i64 7000, .int .i64 7000, .int .i64 (-20), .int .i64 20, .int .i64 100, .int .i64 300, .int .i64 (-1), .int .i64 6000, .int .i64 6050, .int .i64 4000, .int .i64 4000, .int .i64 (-20), .int .i64 0, .int .i64 50, .int .i64 100, .int .i64 0, .int .i64 4000, .int .i64 4100, .int .i64 3000, .int .i64 3000, .int .i64 0, .int .i64 20, .int .i64 50, .int .i64 100, .int .i64 0] 48 w' ∧ Box g2 #[.int .i64 100, .int .i64 110, .int .i64 20, .int .i64 40, .int .i64 20, .int .i64 24, .int .i64 50, .int .i64 60, .int .i64 30, .int .i64 40, .int .i64 20, .int .i64 24, .int .i64 40, .int .i64 50, .int .i64 0, .int .i64 10, .int .i64 10, .int .i64 12] 54 w' ∧ w.heap.size ≤ g1 ∧ g1 < g2 ∧ Below w.heap.size w w' := by
  go_enter Try.func29, Try.ntmps29
  have HL := Lib.hid (Below.refl w.heap.size w)
  go_wp2_with fail
  refine (lspan_any _ _ _).mono ?_
  rintro e v0 ⟨rfl, hb⟩
  replace HL := Lib.hid (HL.out.trans (hb.mono HL.out.size))
  clear hb
  go_wp2_with fail
  refine (lspan_any _ _ _).mono ?_
  rintro e v1 ⟨rfl, hb⟩
  replace HL := Lib.hid (HL.out.trans (hb.mono HL.out.size))
  clear hb
  go_wp2_with fail
  refine (lspan_any _ _ _).mono ?_
  rintro e v2 ⟨rfl, hb⟩
  replace HL := Lib.hid (HL.out.trans (hb.mono HL.out.size))
  clear hb
  go_wp2_with fail
  refine (lspan_any _ _ _).mono ?_
  rintro e v3 ⟨rfl, hb⟩
  replace HL := Lib.hid (HL.out.trans (hb.mono HL.out.size))
  clear hb
  go_wp2_with fail
  refine (lspan_any _ _ _).mono ?_
  rintro e v4 ⟨rfl, hb⟩
  replace HL := Lib.hid (HL.out.trans (hb.mono HL.out.size))
  clear hb
  go_wp2_with fail
  refine (lspan_any _ _ _).mono ?_
  rintro e v5 ⟨rfl, hb⟩
  replace HL := Lib.hid (HL.out.trans (hb.mono HL.out.size))
  clear hb
  go_wp2_with fail
  refine (lspan_any _ _ _).mono ?_
  rintro e v6 ⟨rfl, hb⟩
  replace HL := Lib.hid (HL.out.trans (hb.mono HL.out.size))
  clear hb
  go_wp2_with fail
  refine (lspan_any _ _ _).mono ?_
  rintro e v7 ⟨rfl, hb⟩
  replace HL := Lib.hid (HL.out.trans (hb.mono HL.out.size))
  clear hb
  go_wp2_with fail
  refine (lspan_any _ _ _).mono ?_
  rintro e v8 ⟨rfl, hb⟩
  replace HL := Lib.hid (HL.out.trans (hb.mono HL.out.size))
  clear hb
  go_wp2_with fail
  refine (lspan_any _ _ _).mono ?_
  rintro e v9 ⟨rfl, hb⟩
  replace HL := Lib.hid (HL.out.trans (hb.mono HL.out.size))
  clear hb
  go_wp2_with fail
  refine (lspan_any _ _ _).mono ?_
  rintro e v10 ⟨rfl, hb⟩
  replace HL := Lib.hid (HL.out.trans (hb.mono HL.out.size))
  clear hb
  go_wp2_with fail
  refine (lspan_any _ _ _).mono ?_
  rintro e v11 ⟨rfl, hb⟩
  replace HL := Lib.hid (HL.out.trans (hb.mono HL.out.size))
  clear hb
  go_upto_region 2 with fail
  have HX := Lib.hid (Box.new (g := v11.heap.size) #[.int .i64 10000, .int .i64 10100, .int .i64 7000, .int .i64 7000, .int .i64 (-20), .int .i64 20, .int .i64 100, .int .i64 300, .int .i64 (-1), .int .i64 6000, .int .i64 6050, .int .i64 4000, .int .i64 4000, .int .i64 (-20), .int .i64 0, .int .i64 50, .int .i64 100, .int .i64 0, .int .i64 4000, .int .i64 4100, .int .i64 3000, .int .i64 3000, .int .i64 0, .int .i64 20, .int .i64 50, .int .i64 100, .int .i64 0] 48 v11 rfl)
  have HG := Lib.hid HL.out.size
  replace HL := Lib.hid (HL.out.alloc HL.out.size (.cells #[.int .i64 10000, .int .i64 10100, .int .i64 7000, .int .i64 7000, .int .i64 (-20), .int .i64 20, .int .i64 100, .int .i64 300, .int .i64 (-1), .int .i64 6000, .int .i64 6050, .int .i64 4000, .int .i64 4000, .int .i64 (-20), .int .i64 0, .int .i64 50, .int .i64 100, .int .i64 0, .int .i64 4000, .int .i64 4100, .int .i64 3000, .int .i64 3000, .int .i64 0, .int .i64 20, .int .i64 50, .int .i64 100, .int .i64 0] 48))
  obtain ⟨X0, hX⟩ : ∃ X, X = v11.alloc (.cells #[.int .i64 10000, .int .i64 10100, .int .i64 7000, .int .i64 7000, .int .i64 (-20), .int .i64 20, .int .i64 100, .int .i64 300, .int .i64 (-1), .int .i64 6000, .int .i64 6050, .int .i64 4000, .int .i64 4000, .int .i64 (-20), .int .i64 0, .int .i64 50, .int .i64 100, .int .i64 0, .int .i64 4000, .int .i64 4100, .int .i64 3000, .int .i64 3000, .int .i64 0, .int .i64 20, .int .i64 50, .int .i64 100, .int .i64 0] 48) := ⟨_, rfl⟩
  obtain ⟨g1, hg⟩ : ∃ G, G = v11.heap.size := ⟨_, rfl⟩
  rw [← hX] at HX HL ⊢
  rw [← hg] at HX HG ⊢
  clear hX hg
  go_wp2_with fail
  refine (lspan_any _ _ _).mono ?_
  rintro e u0 ⟨rfl, hb⟩
  replace HL := Lib.hid (HL.out.trans (hb.mono HL.out.size))
  replace HX := Lib.hid (HX.out.below hb)
  clear hb
  go_wp2_with fail
  refine (lspan_any _ _ _).mono ?_
  rintro e u1 ⟨rfl, hb⟩
  replace HL := Lib.hid (HL.out.trans (hb.mono HL.out.size))
  replace HX := Lib.hid (HX.out.below hb)
  clear hb
  go_wp2_with fail
  refine (lspan_any _ _ _).mono ?_
  rintro e u2 ⟨rfl, hb⟩
  replace HL := Lib.hid (HL.out.trans (hb.mono HL.out.size))
  replace HX := Lib.hid (HX.out.below hb)
  clear hb
  go_wp2_with fail
  refine (lspan_any _ _ _).mono ?_
  rintro e u3 ⟨rfl, hb⟩
  replace HL := Lib.hid (HL.out.trans (hb.mono HL.out.size))
  replace HX := Lib.hid (HX.out.below hb)
  clear hb
  go_wp2_with fail
  refine (lspan_any _ _ _).mono ?_
  rintro e u4 ⟨rfl, hb⟩
  replace HL := Lib.hid (HL.out.trans (hb.mono HL.out.size))
  replace HX := Lib.hid (HX.out.below hb)
  clear hb
  go_wp2_with fail
  refine (lspan_any _ _ _).mono ?_
  rintro e u5 ⟨rfl, hb⟩
  replace HL := Lib.hid (HL.out.trans (hb.mono HL.out.size))
  replace HX := Lib.hid (HX.out.below hb)
  clear hb
  go_wp2_with fail
  refine (lspan_any _ _ _).mono ?_
  rintro e u6 ⟨rfl, hb⟩
  replace HL := Lib.hid (HL.out.trans (hb.mono HL.out.size))
  replace HX := Lib.hid (HX.out.below hb)
  clear hb
  go_wp2_with fail
  refine (lspan_any _ _ _).mono ?_
  rintro e u7 ⟨rfl, hb⟩
  replace HL := Lib.hid (HL.out.trans (hb.mono HL.out.size))
  replace HX := Lib.hid (HX.out.below hb)
  clear hb
  go_wp2_with fail
  refine (lspan_any _ _ _).mono ?_
  rintro e u8 ⟨rfl, hb⟩
  replace HL := Lib.hid (HL.out.trans (hb.mono HL.out.size))
  replace HX := Lib.hid (HX.out.below hb)
  clear hb
  go_wp2_with fail
  refine bodyPost_ret (v := .tuple #[.slice (some ⟨g1, 0, none⟩) 3 3, .slice (some ⟨u8.heap.size, 0, none⟩) 3 3]) (by simp [results, Try.results29, go_sem]) rfl ⟨g1, u8.heap.size, rfl, HX.out.old _, Box.new _ _ _ rfl, HG.out, HX.out.lt, HL.out.alloc HL.out.size _⟩
theorem spns_some {w : World} {oL : Option Addr} {s : Nat → Spn} (h : SpnsAt w oL 3 s) : ∃ b o, oL = some ⟨b, o, none⟩ := by
  obtain ⟨b, o, e, -⟩ := h 0 (by omega)
  exact ⟨b, o, e⟩
theorem SpnsAt.only {g b o n : Nat} {w w' : World} {s : Nat → Spn} (h : SpnsAt w (some ⟨b, o, none⟩) n s) (ho : Only g w w') (hne : b ≠ g) : SpnsAt w' (some ⟨b, o, none⟩) n s := fun i hi => by
  obtain ⟨b', o', e, hl, c0, c1⟩ := h i hi
  cases e
  have k := ho.block b hne
  exact ⟨b, o, rfl, by rw [ho.size]; exact hl, (World.cell?_of_block (a := ⟨b, o + i * 2, none⟩) k).trans c0, (World.cell?_of_block (a := ⟨b, o + i * 2 + 1, none⟩) k).trans c1⟩
/-- what awake's calls keep -/
structure Aw (w : World) (g1 g2 : Nat) (W : World) : Prop where
  low : Below w.heap.size w W
  bz : Box g1 #[.int .i64 10000, .int .i64 10100, .int .i64 7000, .int .i64 7000, .int .i64 (-20), .int .i64 20, .int .i64 100, .int .i64 300, .int .i64 (-1), .int .i64 6000, .int .i64 6050, .int .i64 4000, .int .i64 4000, .int .i64 (-20), .int .i64 0, .int .i64 50, .int .i64 100, .int .i64 0, .int .i64 4000, .int .i64 4100, .int .i64 3000, .int .i64 3000, .int .i64 0, .int .i64 20, .int .i64 50, .int .i64 100, .int .i64 0] 48 W
  bn : Box g2 #[.int .i64 100, .int .i64 110, .int .i64 20, .int .i64 40, .int .i64 20, .int .i64 24, .int .i64 50, .int .i64 60, .int .i64 30, .int .i64 40, .int .i64 20, .int .i64 24, .int .i64 40, .int .i64 50, .int .i64 0, .int .i64 10, .int .i64 10, .int .i64 12] 54 W
theorem Aw.on {w : World} {g1 g2 : Nat} {W V : World} (h : Aw w g1 g2 W) (hb : Below W.heap.size W V) : Aw w g1 g2 V := ⟨h.low.trans (hb.mono h.low.size), h.bz.below hb, h.bn.below hb⟩
theorem ex_own {w w' : World} {e : Ending} (h : OwnP 3 (smpZ 10000 10100) w e w') : Below w.heap.size w w' ∧ ∃ b o cL, e = .returned (.tuple #[.slice (some ⟨b, o, none⟩) 3 cL, .int .i64 0]) ∧ SpnsAt w' (some ⟨b, o, none⟩) 3 (fun i => ownS (smpZ 10000 10100 i)) ∧ w.heap.size ≤ b := by
  obtain ⟨hb, ⟨h1, -⟩ | ⟨-, oL, cL, rfl, h2, h3⟩⟩ := h
  · rw [smp_list] at h1; cases h1
  · obtain ⟨b, o, rfl⟩ := spns_some h2
    exact ⟨hb, b, o, cL, rfl, h2, h3 _ rfl⟩
theorem ex_loss {w w' : World} {e : Ending} (h : LossP 3 (smpZ 10000 10100) w e w') : Below w.heap.size w w' ∧ ∃ b o cL, e = .returned (.tuple #[.slice (some ⟨b, o, none⟩) 3 cL, .int .i64 0]) ∧ SpnsAt w' (some ⟨b, o, none⟩) 3 (dnF (smpZ 10000 10100) 3) ∧ w.heap.size ≤ b := by
  obtain ⟨hb, ⟨h1, -⟩ | ⟨-, h1, -⟩ | ⟨-, -, oL, cL, rfl, h2, h3⟩⟩ := h
  · rw [smp_list] at h1; cases h1
  · exact absurd smp_all h1
  · obtain ⟨b, o, rfl⟩ := spns_some h2
    exact ⟨hb, b, o, cL, rfl, h2, h3 _ rfl⟩
theorem ex_leak {w w' : World} {e : Ending} (h : LeakP 3 3 (smpZ 10000 10100) smpN w e w') : Below w.heap.size w w' ∧ ∃ b o cL, e = .returned (.tuple #[.slice (some ⟨b, o, none⟩) 3 cL, .int .i64 0]) ∧ SpnsAt w' (some ⟨b, o, none⟩) 3 (fun i => leakS (smpN i)) ∧ w.heap.size ≤ b := by
  obtain ⟨hb, ⟨h1, -, -, -⟩ | ⟨-, -, -, -, oL, cL, rfl, h2, h3⟩⟩ := leakP_cases h
  · exact absurd smp_code h1
  · obtain ⟨b, o, rfl⟩ := spns_some h2
    exact ⟨hb, b, o, cL, rfl, h2, h3 _ rfl⟩
theorem ex_first {w w' : World} {e : Ending} (h : FirstP 3 3 (smpZ 10000 10100) smpN w e w') : Below w.heap.size w w' ∧ e = .returned (.tuple #[.int .i64 1, .int .i64 0]) := by
  obtain ⟨hb, ⟨h1, -⟩ | ⟨-, h1, -⟩ | ⟨-, -, most, x, c, rfl, h2⟩⟩ := h
  · exact absurd smp_code h1
  · exact absurd smp_all h1
  · obtain ⟨rfl, rfl⟩ := smp_first h2
    exact ⟨hb, rfl⟩
theorem ex_loss2 {w w' : World} {e : Ending} (h : LossP 3 (smpZ 9000 9100) w e w') : Below w.heap.size w w' ∧ e = .returned (.tuple #[.slice none 0 0, .int .i64 6]) := by
  obtain ⟨hb, ⟨h1, -⟩ | ⟨-, -, h1⟩ | ⟨-, h1, -⟩⟩ := h
  · rw [smp_list2] at h1; cases h1
  · exact ⟨hb, h1⟩
  · have := h1 0 (by omega)
    rw [smp_none] at this; cases this
theorem ex_wrong {w w' : World} {e : Ending} (h : WrongP 3 (smpZ 9000 9100) w e w') : Below w.heap.size w w' ∧ e = .returned (.tuple #[.int .i64 0, .int .i64 0]) := by
  obtain ⟨hb, ⟨h1, -⟩ | ⟨-, h1, -⟩ | ⟨-, k, hk, h1, -, rfl⟩⟩ := h
  · rw [smp_list2] at h1; cases h1
  · have := h1 0 (by omega)
    rw [smp_none] at this; cases this
  · rcases three hk with rfl | rfl | rfl
    · exact ⟨hb, rfl⟩
    · have := smp_some1; rw [h1] at this; cases this
    · have := smp_some2; rw [h1] at this; cases this
set_option maxRecDepth 100000 in
set_option maxHeartbeats 16000000 in
theorem awake_any (w : World) :
    Calls Try.prog 10 #[] w fun e w' => e = .returned (.bool true) ∧ Below w.heap.size w w' := by
  go_enter Try.func10, Try.ntmps10
  go_wp2_with fail
  refine (sample_any _).mono ?_
  rintro e v1 ⟨g1, g2, rfl, hz, hn, hg, hgg, hb⟩
  have HA := Lib.hid (show Aw w g1 g2 v1 from ⟨hb, hz, hn⟩)
  have HG := Lib.hid (And.intro hg hgg)
  clear hb hz hn hg hgg
  go_upto_region 2 with fail
  go_wp2_with fail
  refine (own_any (some ⟨g1, 0, none⟩) 3 3 (smpZ 10000 10100) _ (by omega) (zons_box HA.out.bz)).mono ?_
  rintro e v2 hp
  obtain ⟨hb, ba, oa, ca, rfl, hs, hbb⟩ := ex_own hp
  have HXa := Lib.hid hs
  have HNa := Lib.hid (show ba ≠ g1 by have := HA.out.bz.lt; omega)
  replace HA := Lib.hid (HA.out.on hb)
  clear hp hb hs hbb
  go_upto_region 3 with fail
  go_wp2_with fail
  refine (losses_any (some ⟨g1, 0, none⟩) 3 3 (smpZ 10000 10100) _ (by omega) (zons_box HA.out.bz)).mono ?_
  rintro e v3 hp
  obtain ⟨hb, bb, ob, cb, rfl, hs, hbb⟩ := ex_loss hp
  have HXb := Lib.hid hs
  have HNb := Lib.hid (show bb ≠ g1 by have := HA.out.bz.lt; omega)
  replace HXa := Lib.hid (HXa.out.mono hb)
  replace HA := Lib.hid (HA.out.on hb)
  clear hp hb hs hbb
  go_upto_region 4 with fail
  go_wp2_with fail
  refine (leaks_any (some ⟨g1, 0, none⟩) (some ⟨g2, 0, none⟩) 3 3 3 3 (smpZ 10000 10100) smpN _ (by omega) (by omega) (zons_box HA.out.bz) (nigs_box HA.out.bn)).mono ?_
  rintro e v4 hp
  obtain ⟨hb, bc, oc, cc, rfl, hs, hbb⟩ := ex_leak hp
  have HXc := Lib.hid hs
  have HNc := Lib.hid (show bc ≠ g1 by have := HA.out.bz.lt; omega)
  replace HXa := Lib.hid (HXa.out.mono hb)
  replace HXb := Lib.hid (HXb.out.mono hb)
  replace HA := Lib.hid (HA.out.on hb)
  clear hp hb hs hbb
  go_upto_region 5 with fail
  go_wp2_with fail
  refine (first_any (some ⟨g1, 0, none⟩) (some ⟨g2, 0, none⟩) 3 3 3 3 (smpZ 10000 10100) smpN _ (by omega) (by omega) (zons_box HA.out.bz) (nigs_box HA.out.bn)).mono ?_
  rintro e v5 hp
  obtain ⟨hb, rfl⟩ := ex_first hp
  replace HXa := Lib.hid (HXa.out.mono hb)
  replace HXb := Lib.hid (HXb.out.mono hb)
  replace HXc := Lib.hid (HXc.out.mono hb)
  replace HA := Lib.hid (HA.out.on hb)
  clear hp hb
  go_upto_region 6 with fail
  go_wp2_with fail
  refine (lspan_any _ _ _).mono ?_
  rintro e x0 ⟨rfl, hb⟩
  replace HXa := Lib.hid (HXa.out.mono hb)
  replace HXb := Lib.hid (HXb.out.mono hb)
  replace HXc := Lib.hid (HXc.out.mono hb)
  replace HA := Lib.hid (HA.out.on hb)
  clear hb
  have k0 := HA.out.bz.cell 0 rfl
  have k1 := HA.out.bz.cell 1 rfl
  have f0 := HA.out.bz.frozen 0
  have f1 := HA.out.bz.frozen 1
  have kl := HA.out.bz.lt
  go_upto_region 7 with fail
  have ho := ((Only.refl g1 x0).setCell 0 (.int .i64 9000)).setCell 1 (.int .i64 9100)
  have HZ := Lib.hid (show Box g1 #[.int .i64 9000, .int .i64 9100, .int .i64 7000, .int .i64 7000, .int .i64 (-20), .int .i64 20, .int .i64 100, .int .i64 300, .int .i64 (-1), .int .i64 6000, .int .i64 6050, .int .i64 4000, .int .i64 4000, .int .i64 (-20), .int .i64 0, .int .i64 50, .int .i64 100, .int .i64 0, .int .i64 4000, .int .i64 4100, .int .i64 3000, .int .i64 3000, .int .i64 0, .int .i64 20, .int .i64 50, .int .i64 100, .int .i64 0] 48 _ from (HA.out.bz.set 0 (.int .i64 9000)).set 1 (.int .i64 9100))
  have HL := Lib.hid (HA.out.low.trans (ho.below HG.out.1))
  replace HXa := Lib.hid (HXa.out.only ho HNa.out)
  replace HXb := Lib.hid (HXb.out.only ho HNb.out)
  replace HXc := Lib.hid (HXc.out.only ho HNc.out)
  clear k0 k1 f0 f1 kl HA HNa HNb HNc ho
  obtain ⟨X0, hX⟩ : ∃ X, X = (x0.setCell ⟨g1, 0, none⟩ (.int .i64 9000)).setCell ⟨g1, 1, none⟩ (.int .i64 9100) := ⟨_, rfl⟩
  rw [← hX] at HZ HL HXa HXb HXc ⊢
  clear hX
  go_wp2_with fail
  refine (losses_any (some ⟨g1, 0, none⟩) 3 3 (smpZ 9000 9100) _ (by omega) (zons_box HZ.out)).mono ?_
  rintro e v7 hp
  obtain ⟨hb, rfl⟩ := ex_loss2 hp
  replace HXa := Lib.hid (HXa.out.mono hb)
  replace HXb := Lib.hid (HXb.out.mono hb)
  replace HXc := Lib.hid (HXc.out.mono hb)
  replace HZ := Lib.hid (HZ.out.below hb)
  replace HL := Lib.hid (HL.out.trans (hb.mono HL.out.size))
  clear hp hb
  go_upto_region 8 with fail
  go_wp2_with fail
  refine (wrong_any (some ⟨g1, 0, none⟩) 3 3 (smpZ 9000 9100) _ (by omega) (zons_box HZ.out)).mono ?_
  rintro e v8 hp
  obtain ⟨hb, rfl⟩ := ex_wrong hp
  replace HXa := Lib.hid (HXa.out.mono hb)
  replace HXb := Lib.hid (HXb.out.mono hb)
  replace HXc := Lib.hid (HXc.out.mono hb)
  replace HZ := Lib.hid (HZ.out.below hb)
  replace HL := Lib.hid (HL.out.trans (hb.mono HL.out.size))
  clear hp hb
  go_upto_region 9 with fail
  clear HZ
  go_wp2_with fail
  refine (lspan_any _ _ _).mono ?_
  rintro e p0 ⟨rfl, hb⟩
  replace HXa := Lib.hid (HXa.out.mono hb)
  replace HXb := Lib.hid (HXb.out.mono hb)
  replace HXc := Lib.hid (HXc.out.mono hb)
  replace HL := Lib.hid (HL.out.trans (hb.mono HL.out.size))
  clear hb
  go_wp2_with fail
  refine (lspan_any _ _ _).mono ?_
  rintro e p1 ⟨rfl, hb⟩
  replace HXa := Lib.hid (HXa.out.mono hb)
  replace HXb := Lib.hid (HXb.out.mono hb)
  replace HXc := Lib.hid (HXc.out.mono hb)
  replace HL := Lib.hid (HL.out.trans (hb.mono HL.out.size))
  clear hb
  go_wp2_with fail
  refine (lspan_any _ _ _).mono ?_
  rintro e p2 ⟨rfl, hb⟩
  replace HXa := Lib.hid (HXa.out.mono hb)
  replace HXb := Lib.hid (HXb.out.mono hb)
  replace HXc := Lib.hid (HXc.out.mono hb)
  replace HL := Lib.hid (HL.out.trans (hb.mono HL.out.size))
  clear hb
  have hbl := below_alloc1 p2 (.cells #[.int .i64 2558, .int .i64 3137, .int .i64 1819, .int .i64 2000, .int .i64 900, .int .i64 1108] 41)
  have hbx := Box.new (g := p2.heap.size) #[.int .i64 2558, .int .i64 3137, .int .i64 1819, .int .i64 2000, .int .i64 900, .int .i64 1108] 41 p2 rfl
  have HSP := Lib.hid (spns_box (s := ⟨2558, 3137⟩) (t := ⟨1819, 2000⟩) (u := ⟨900, 1108⟩) hbx)
  have HYa := Lib.hid (HXa.out.mono hbl)
  have HYb := Lib.hid (HXb.out.mono hbl)
  have HYc := Lib.hid (HXc.out.mono hbl)
  have HL2 := Lib.hid (HL.out.trans (hbl.mono HL.out.size))
  clear hbl hbx
  go_wp2_with fail
  refine (spans_any _ _ 3 _ 3 _ _ smpA _ (by omega) (by omega) HYa.out HSP.out).mono ?_
  rintro e p3 ⟨rfl, hb⟩
  rw [spnsB_yes smp_own]
  clear HSP HXa HXb HXc HL HYa
  have HXb := Lib.hid (HYb.out.mono hb)
  have HXc := Lib.hid (HYc.out.mono hb)
  have HL := Lib.hid (HL2.out.trans (hb.mono HL2.out.size))
  clear hb HL2 HYb HYc
  go_wp2_with fail
  refine (lspan_any _ _ _).mono ?_
  rintro e q0 ⟨rfl, hb⟩
  replace HXb := Lib.hid (HXb.out.mono hb)
  replace HXc := Lib.hid (HXc.out.mono hb)
  replace HL := Lib.hid (HL.out.trans (hb.mono HL.out.size))
  clear hb
  go_wp2_with fail
  refine (lspan_any _ _ _).mono ?_
  rintro e q1 ⟨rfl, hb⟩
  replace HXb := Lib.hid (HXb.out.mono hb)
  replace HXc := Lib.hid (HXc.out.mono hb)
  replace HL := Lib.hid (HL.out.trans (hb.mono HL.out.size))
  clear hb
  go_wp2_with fail
  refine (lspan_any _ _ _).mono ?_
  rintro e q2 ⟨rfl, hb⟩
  replace HXb := Lib.hid (HXb.out.mono hb)
  replace HXc := Lib.hid (HXc.out.mono hb)
  replace HL := Lib.hid (HL.out.trans (hb.mono HL.out.size))
  clear hb
  have hbl := below_alloc1 q2 (.cells #[.int .i64 2719, .int .i64 3108, .int .i64 1819, .int .i64 2000, .int .i64 900, .int .i64 1108] 41)
  have hbx := Box.new (g := q2.heap.size) #[.int .i64 2719, .int .i64 3108, .int .i64 1819, .int .i64 2000, .int .i64 900, .int .i64 1108] 41 q2 rfl
  have HSP := Lib.hid (spns_box (s := ⟨2719, 3108⟩) (t := ⟨1819, 2000⟩) (u := ⟨900, 1108⟩) hbx)
  have HYb := Lib.hid (HXb.out.mono hbl)
  have HYc := Lib.hid (HXc.out.mono hbl)
  have HL2 := Lib.hid (HL.out.trans (hbl.mono HL.out.size))
  clear hbl hbx
  go_wp2_with fail
  refine (spans_any _ _ 3 _ 3 _ _ smpB _ (by omega) (by omega) HYb.out HSP.out).mono ?_
  rintro e q3 ⟨rfl, hb⟩
  rw [spnsB_yes smp_loss]
  clear HSP HXb HXc HL HYb
  have HXc := Lib.hid (HYc.out.mono hb)
  have HL := Lib.hid (HL2.out.trans (hb.mono HL2.out.size))
  clear hb HL2 HYc
  go_wp2_with fail
  refine (lspan_any _ _ _).mono ?_
  rintro e r0 ⟨rfl, hb⟩
  replace HXc := Lib.hid (HXc.out.mono hb)
  replace HL := Lib.hid (HL.out.trans (hb.mono HL.out.size))
  clear hb
  go_wp2_with fail
  refine (lspan_any _ _ _).mono ?_
  rintro e r1 ⟨rfl, hb⟩
  replace HXc := Lib.hid (HXc.out.mono hb)
  replace HL := Lib.hid (HL.out.trans (hb.mono HL.out.size))
  clear hb
  go_wp2_with fail
  refine (lspan_any _ _ _).mono ?_
  rintro e r2 ⟨rfl, hb⟩
  replace HXc := Lib.hid (HXc.out.mono hb)
  replace HL := Lib.hid (HL.out.trans (hb.mono HL.out.size))
  clear hb
  have hbl := below_alloc1 r2 (.cells #[.int .i64 1200, .int .i64 2160, .int .i64 200, .int .i64 720, .int .i64 300, .int .i64 600] 41)
  have hbx := Box.new (g := r2.heap.size) #[.int .i64 1200, .int .i64 2160, .int .i64 200, .int .i64 720, .int .i64 300, .int .i64 600] 41 r2 rfl
  have HSP := Lib.hid (spns_box (s := ⟨1200, 2160⟩) (t := ⟨200, 720⟩) (u := ⟨300, 600⟩) hbx)
  have HYc := Lib.hid (HXc.out.mono hbl)
  have HL2 := Lib.hid (HL.out.trans (hbl.mono HL.out.size))
  clear hbl hbx
  go_wp2_with fail
  refine (spans_any _ _ 3 _ 3 _ _ smpC _ (by omega) (by omega) HYc.out HSP.out).mono ?_
  rintro e r3 ⟨rfl, hb⟩
  rw [spnsB_yes smp_leak]
  clear HSP HXc HL HYc
  have HL := Lib.hid (HL2.out.trans (hb.mono HL2.out.size))
  clear hb HL2 
  go_wp2_with fail
  go_ret
  exact ⟨rfl, HL.out⟩
end Go.Proofs.Ytipnaeijbbbdoaa
