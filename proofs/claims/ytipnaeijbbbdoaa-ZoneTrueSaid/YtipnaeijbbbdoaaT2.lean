/- Zone: truth. -/
import Derived.Test.YtipnaeijbbbdoaaT1
import Derived.Test.YtipnaeijbbbdoaaP7
import Derived.Laws.MakeOwn
import Derived.Deep.DeepCutAuto
namespace Go.Proofs.Ytipnaeijbbbdoaa
open Go.RowKit
theorem make37 {n : Nat} (h : n ≤ 1000000) (W : World) : (Instr.makeSlice 37 (.int .i64 (n : Nat)) (.int .i64 (n : Nat))).run Try.prog W = .ok (.slice (some ⟨W.heap.size, 0, none⟩) n n) (W.alloc (.cells (madeCells #[.int .i64 0] (n * 1)) 3)) := by
  obtain ⟨iU, hiU, hzU0, hzU1, hzU2⟩ := info_parts (P := Try.prog) (e := 3) (z := .int .i64 0) (size := 1) (bytes := 8) (by kernel_rfl)
  have hr := run_make (P := Try.prog) W 37 3 iU _ Try.underlying37 hiU hzU0 .i64 .i64 (n : Nat) (n : Nat) (by omega) (Int.le_refl _) (by rw [hzU2]; omega) (by omega)
  rw [hzU1, Int.toNat_natCast] at hr
  exact hr
theorem make85 {n : Nat} (h : n ≤ 1000000) (W : World) : (Instr.makeSlice 85 (.int .i64 (n : Nat)) (.int .i64 (n : Nat))).run Try.prog W = .ok (.slice (some ⟨W.heap.size, 0, none⟩) n n) (W.alloc (.cells (madeCells #[.bool false] (n * 1)) 4)) := by
  obtain ⟨iU, hiU, hzU0, hzU1, hzU2⟩ := info_parts (P := Try.prog) (e := 4) (z := .bool false) (size := 1) (bytes := 1) (by kernel_rfl)
  have hr := run_make (P := Try.prog) W 85 4 iU _ Try.underlying85 hiU hzU0 .i64 .i64 (n : Nat) (n : Nat) (by omega) (Int.le_refl _) (by rw [hzU2]; omega) (by omega)
  rw [hzU1, Int.toNat_natCast] at hr
  exact hr
/-- these cells begin with these values -/
def VRow (n : Nat) (f : Nat → Value) (cur : Array Value) : Prop := n ≤ cur.size ∧ ∀ j, j < n → cur[j]? = some (f j)
theorem made_vrow (n : Nat) (v : Value) : VRow n (fun _ => v) (madeCells #[v] (n * 1)) := by
  refine ⟨by rw [size_madeCells]; omega, fun j hj => ?_⟩
  unfold madeCells
  rw [Array.getElem?_map, Array.getElem?_range, if_pos (by omega)]
  simp [Nat.mod_one]
theorem VRow.set {n i : Nat} {f g : Nat → Value} {cur : Array Value} (h : VRow n f cur) (hi : i < n) (hs : ∀ j, j < n → j ≠ i → g j = f j) : VRow n g (cur.setIfInBounds i (g i)) := by
  refine ⟨by simpa using h.1, fun j hj => ?_⟩
  have hn := h.1
  by_cases e : j = i
  · subst e
    rw [Array.getElem?_setIfInBounds_self_of_lt (by omega)]
  · rw [Array.getElem?_setIfInBounds_ne (by omega), h.2 j hj, hs j hj e]
theorem VRow.congr {n : Nat} {f g : Nat → Value} {cur : Array Value} (h : VRow n f cur) (hs : ∀ j, j < n → g j = f j) : VRow n g cur := ⟨h.1, fun j hj => by rw [hs j hj]; exact h.2 j hj⟩
/-- the boxes of truth -/
structure Ta (w : World) (ob : Option Addr) (h cb gB gL gH : Nat) (cl ch : Array Value) (W : World) : Prop where
  low : Below w.heap.size w W
  b : Box gB #[.slice ob h cb] 36 W
  l : Box gL cl 3 W
  h : Box gH ch 4 W
theorem Ta.on {w : World} {ob : Option Addr} {h cb gB gL gH : Nat} {cl ch : Array Value} {W V : World} (H : Ta w ob h cb gB gL gH cl ch W) (hb : Below W.heap.size W V) : Ta w ob h cb gB gL gH cl ch V := ⟨H.low.trans (hb.mono H.low.size), H.b.below hb, H.l.below hb, H.h.below hb⟩
theorem Box.low {g B : Nat} {cs : Array Value} {t : TypeId} {w w' : World} (h : Box g cs t w) (hb : Below B w w') (hg : g < B) : Box g cs t w' := ⟨(hb.block g hg).trans h.row⟩
theorem Ta.far {w : World} {ob : Option Addr} {h cb gB gL gH B : Nat} {cl ch : Array Value} {W V : World} (H : Ta w ob h cb gB gL gH cl ch W) (hb : Below B W V) (h0 : w.heap.size ≤ B) (h1 : gB < B) (h2 : gL < B) (h3 : gH < B) : Ta w ob h cb gB gL gH cl ch V := ⟨H.low.trans (hb.mono h0), H.b.low hb h1, H.l.low hb h2, H.h.low hb h3⟩
theorem news_blk {W : World} {g e : Nat} {cs : Array Value} {u : Value} {j : Nat} (h : W.heap[g]? = some (.cells cs e (0, 0))) (hu : cs.toList[j]? = some u) : W.cell? ((⟨g, 0, none⟩ : Addr).add j) = some u := by
  rw [add_flat, Nat.zero_add]
  exact Box.cell ⟨h⟩ j (by simpa using hu)
theorem zone_news {W : World} {cs : Array Value} : ∀ ad, some (⟨W.heap.size, 0, none⟩ : Addr) = some ad → ∀ j u, cs.toList[j]? = some u → (W.alloc (.cells cs 48)).cell? (ad.add j) = some u := fun ad e j u hu => by
  cases e
  exact news_blk (heap_new rfl) hu
theorem one9 {a b c d e f g h i : Int} : ∀ u ∈ [Value.int .i64 a, .int .i64 b, .int .i64 c, .int .i64 d, .int .i64 e, .int .i64 f, .int .i64 g, .int .i64 h, .int .i64 i], u.oneCell' = true := fun u hu => by
  simp at hu
  rcases hu with rfl | rfl | rfl | rfl | rfl | rfl | rfl | rfl | rfl <;> rfl
theorem ix85 {g n c i : Nat} (h : i < n) (W : World) : (Instr.indexAt 85 (.slice (some ⟨g, 0, none⟩) n c) (.int .i64 (i : Nat))).run Try.prog W = .ok (.pointer (some ⟨g, i, none⟩)) W := by
  have k0 : (0 : Int) ≤ (i : Int) := by omega
  have k1 : (i : Int) < (n : Int) := by omega
  simp [go_sem, k0, k1]
theorem ix37 {g n c i : Nat} (h : i < n) (W : World) : (Instr.indexAt 37 (.slice (some ⟨g, 0, none⟩) n c) (.int .i64 (i : Nat))).run Try.prog W = .ok (.pointer (some ⟨g, i, none⟩)) W := by
  have k0 : (0 : Int) ≤ (i : Int) := by omega
  have k1 : (i : Int) < (n : Int) := by omega
  simp [go_sem, k0, k1]
theorem ixZ {g n c i : Nat} (h : i < n) (W : World) : (Instr.indexAt 22 (.slice (some ⟨g, 0, none⟩) n c) (.int .i64 (i : Nat))).run Try.prog W = .ok (.pointer (some ⟨g, i * 9, none⟩)) W := by
  have k0 : (0 : Int) ≤ (i : Int) := by omega
  have k1 : (i : Int) < (n : Int) := by omega
  simp [go_sem, k0, k1]
theorem sumN_ge {f : Nat → Int} {q : Nat} : ∀ {k : Nat}, q < k → (∀ i, i < k → 0 ≤ f i) → f q ≤ sumN f k
  | 0, h, _ => by omega
  | k + 1, h, h0 => by
    have h1 := h0 k (by omega)
    simp only [sumN]
    by_cases e : q = k
    · subst e
      have := sumN_nn (f := f) (k := q) fun i hi => h0 i (by omega)
      omega
    · have := sumN_ge (f := f) (q := q) (k := k) (by omega) fun i hi => h0 i (by omega)
      omega
theorem TM.le2 {d : Nat → Nat → Nat} {n i q : Nat} {t : Nat → Int} (h : TM d n i t) (hn : n ≤ 12) (hi : i < n) (hq : q < i) : 0 ≤ t q ∧ t q ≤ 36000 := by
  have h1 := h.ms
  have h2 := sumN_ge (f := t) (q := q) (k := i + 1) (by omega) fun j hj => h.nn j (by omega)
  have h3 := h.nn q (by omega)
  omega
theorem cells_if9 {P : Nat → Prop} (h0 : P 0) (h1 : P 1) (h2 : P 2) (h3 : P 3) (h4 : P 4) (h5 : P 5) (h6 : P 6) (h7 : P 7) (h8 : P 8) : ∀ k, k < 9 → P k := fun k hk => by
  rcases k with _|_|_|_|_|_|_|_|_|k
  · exact h0
  · exact h1
  · exact h2
  · exact h3
  · exact h4
  · exact h5
  · exact h6
  · exact h7
  · exact h8
  · omega
/-- and the zones' block -/
structure Tb (w : World) (ob : Option Addr) (h cb gB gL gH gZ : Nat) (cl ch cz : Array Value) (W : World) : Prop where
  a : Ta w ob h cb gB gL gH cl ch W
  z : Box gZ cz 48 W
theorem Tb.on {w : World} {ob : Option Addr} {h cb gB gL gH gZ : Nat} {cl ch cz : Array Value} {W V : World} (H : Tb w ob h cb gB gL gH gZ cl ch cz W) (hb : Below W.heap.size W V) : Tb w ob h cb gB gL gH gZ cl ch cz V := ⟨H.a.on hb, H.z.below hb⟩
theorem Tb.setL {w : World} {ob : Option Addr} {h cb gB gL gH gZ i : Nat} {v : Value} {cl ch cz : Array Value} {W V : World} (H : Tb w ob h cb gB gL gH gZ cl ch cz W) (hg : w.heap.size ≤ gB ∧ gB < gL ∧ gL < gH ∧ gH < gZ) (ho : Only gL W V) (hl : Box gL (cl.setIfInBounds i v) 3 V) : Tb w ob h cb gB gL gH gZ (cl.setIfInBounds i v) ch cz V :=
  ⟨⟨H.a.low.trans (ho.below (by omega)), ho.box H.a.b (by omega), hl, ho.box H.a.h (by omega)⟩, ho.box H.z (by omega)⟩
theorem Tb.setZ {w : World} {ob : Option Addr} {h cb gB gL gH gZ : Nat} {cl ch cz cz' : Array Value} {W V : World} (H : Tb w ob h cb gB gL gH gZ cl ch cz W) (hg : w.heap.size ≤ gB ∧ gB < gL ∧ gL < gH ∧ gH < gZ) (ho : Only gZ W V) (hl : Box gZ cz' 48 V) : Tb w ob h cb gB gL gH gZ cl ch cz' V :=
  ⟨⟨H.a.low.trans (ho.below (by omega)), ho.box H.a.b (by omega), ho.box H.a.l (by omega), ho.box H.a.h (by omega)⟩, hl⟩
set_option maxRecDepth 100000 in
set_option maxHeartbeats 16000000 in
theorem truth_any (ob : Option Addr) (h cb : Nat) (u : Nat → Nat) (w : World) (hm : 0 < h) (hm2 : h ≤ 9223372036854775807) (hU : U16sAt w ob h u) :
    Calls Try.prog 22 #[.slice ob h cb] w fun e w' => Below w.heap.size w w' ∧ ∃ (n gZ cZ gL : Nat) (t : Nat → Int) (f : Nat → Zon), 1 ≤ n ∧ n ≤ 12 ∧ e = .returned (.tuple #[.slice (some ⟨gZ, 0, none⟩) n cZ, .slice (some ⟨gL, 0, none⟩) n n]) ∧
      ZonsAt w' (some ⟨gZ, 0, none⟩) n f ∧ listB n f = true ∧ Tru f n t ∧ gL < w'.heap.size ∧ (∀ i, i < n → w'.cell? ⟨gL, i, none⟩ = some (.int .i64 (t i))) := by
  have HU := Lib.hid (fun (V : World) (hV : Below w.heap.size w V) => hU.mono hV)
  obtain ⟨hu0, b, off, hob, hl, c0⟩ := hU 0 hm
  subst hob
  clear hU
  have hdl := Lib.hid (fun i k => drw_lt u h i k)
  have HDR := Lib.hid (show ∀ (gB : Nat) (cl ch : Array Value) (gL gH : Nat) (V : World), Ta w (some ⟨b, off, none⟩) h cb gB gL gH cl ch V → ∀ (i k : Nat) (K : Int), K = (k : Int) → i ≤ 20 → k ≤ 20 → Calls Try.prog 50 #[.int .i64 i, .int .i64 K, .pointer (some ⟨gB, 0, none⟩)] V fun e w' => e = .returned (.int .u16 (drw u h i k : Nat)) ∧ Below V.heap.size V w' from
    fun gB cl ch gL gH V hV i k K hK hi hk => draw_any i k h cb gB K _ u V hi hK hk hm hm2 hV.b (HU.out V hV.low))
  obtain ⟨d, hd⟩ : ∃ d, d = drw u h := ⟨_, rfl⟩
  simp only [← hd] at HDR hdl
  clear hd HU
  obtain ⟨r, hr⟩ : ∃ r, r = u 0 % 12 := ⟨_, rfl⟩
  have hr12 : r < 12 := by omega
  have tr : ((u 0 : Nat) : Int).tmod 12 = (r : Int) := by rw [Int.tmod_eq_emod_of_nonneg (by omega), hr]; exact (Int.natCast_emod _ 12).symm
  obtain ⟨n, hn⟩ : ∃ n, n = 1 + r := ⟨_, rfl⟩
  have hN : 1 + (r : Int) = (n : Int) := by omega
  have HN := Lib.hid (show 1 ≤ n ∧ n ≤ 12 by omega)
  obtain ⟨u0, hu9⟩ : ∃ x, x = u 0 := ⟨_, rfl⟩
  rw [← hu9] at hu0 c0 tr
  simp only [Nat.add_zero] at c0
  clear hr hn hu9 u
  go_enter Try.func22, Try.ntmps22
  go_upto_region 1 with fail
  have hbl := below_alloc1 w (.cells #[.slice (some ⟨b, off, none⟩) h cb] 36)
  have hbx := Box.new (g := w.heap.size) #[.slice (some ⟨b, off, none⟩) h cb] 36 w rfl
  obtain ⟨gB, hG⟩ : ∃ G, G = w.heap.size := ⟨_, rfl⟩
  obtain ⟨w2, hW⟩ : ∃ X, X = w.alloc (.cells #[.slice (some ⟨b, off, none⟩) h cb] 36) := ⟨_, rfl⟩
  rw [← hW] at hbl hbx ⊢
  rw [← hG] at hbx ⊢
  have c1 := (hbl.cell (p := ⟨b, off, none⟩) hl).trans c0
  have hl1 := Nat.lt_of_lt_of_le hl hbl.size
  have c2 := hbx.cell 0 (v := .slice (some ⟨b, off, none⟩) h cb) rfl
  have hl2 := hbx.lt
  have k0 : (0 : Int) < (h : Int) := by omega
  have HGB := Lib.hid (show gB = w.heap.size from hG)
  have HBL := Lib.hid hbl
  have HBX := Lib.hid hbx
  clear hG hW c0 hl hbl hbx
  go_upto_region 3 with fail
  clear c1 hl1 c2 hl2 k0 tr hN hr12
  have hm1 : ∀ W : World, (Instr.makeSlice 37 (.int .i64 (n : Nat)) (.int .i64 (n : Nat))).run Try.prog W = .ok (.slice (some ⟨W.heap.size, 0, none⟩) n n) (W.alloc (.cells (madeCells #[.int .i64 0] (n * 1)) 3)) := fun W => make37 (by have := HN.out; omega) W
  have hm2 : ∀ W : World, (Instr.makeSlice 85 (.int .i64 (n : Nat)) (.int .i64 (n : Nat))).run Try.prog W = .ok (.slice (some ⟨W.heap.size, 0, none⟩) n n) (W.alloc (.cells (madeCells #[.bool false] (n * 1)) 4)) := fun W => make85 (by have := HN.out; omega) W
  have hr1 := made_vrow n (.int .i64 0)
  have hr2 := made_vrow n (.bool false)
  obtain ⟨cl0, hcl⟩ : ∃ c, c = madeCells #[.int .i64 0] (n * 1) := ⟨_, rfl⟩
  obtain ⟨ch0, hch⟩ : ∃ c, c = madeCells #[.bool false] (n * 1) := ⟨_, rfl⟩
  rw [← hcl] at hr1
  rw [← hch] at hr2
  simp only [← hcl] at hm1
  simp only [← hch] at hm2
  have HR1 := Lib.hid hr1
  have HR2 := Lib.hid hr2
  clear hr1 hr2 hcl hch
  go_upto_region 5 with fail
  clear hm1 hm2
  have hz1 : w2.heap.size < (w2.alloc (.cells cl0 3)).heap.size := by simp
  have hL1 := below_alloc1 w2 (.cells cl0 3)
  have hL2 := below_alloc1 (w2.alloc (.cells cl0 3)) (.cells ch0 4)
  have hxl := (Box.new (g := w2.heap.size) cl0 3 w2 rfl).below hL2
  have hxh := Box.new (g := (w2.alloc (.cells cl0 3)).heap.size) ch0 4 (w2.alloc (.cells cl0 3)) rfl
  obtain ⟨gL, hGL⟩ : ∃ G, G = w2.heap.size := ⟨_, rfl⟩
  have hsz1 : (w2.alloc (.cells cl0 3)).heap.size = gL + 1 := by rw [hGL]; simp
  obtain ⟨gH, hGH⟩ : ∃ G, G = gL + 1 := ⟨_, rfl⟩
  rw [hsz1, ← hGH] at hxh hz1
  obtain ⟨w3, hW3⟩ : ∃ G, G = (w2.alloc (.cells cl0 3)).alloc (.cells ch0 4) := ⟨_, rfl⟩
  have HF := Lib.hid (show Ta w (some ⟨b, off, none⟩) h cb gB gL gH cl0 ch0 w3 from ⟨by rw [hW3]; exact HBL.out.trans ((hL1.trans (hL2.mono hL1.size)).mono HBL.out.size), by rw [hW3]; exact (HBX.out.below hL1).below hL2, by rw [hW3, hGL]; exact hxl, by rw [hW3]; exact hxh⟩)
  have HGS := Lib.hid (show w.heap.size ≤ gB ∧ gB < gL ∧ gL < gH ∧ gH < w3.heap.size ∧ w.heap.size ≤ w3.heap.size from by
    have h1 := HGB.out
    have h2 := HF.out.low.size
    have h3 := HBX.out.lt
    have h4 := HF.out.h.lt
    omega)
  rw [← hGL, ← hGH, ← hW3]
  clear hz1 hL1 hL2 hxl hxh hGL hGH hW3 hsz1 HBL HBX HGB
  obtain ⟨iR, hiR, hzR0, hzR1, hzR2⟩ := info_parts (P := Try.prog) (e := 48) (z := .agg #[.int .i64 0, .int .i64 0, .int .i64 0, .int .i64 0, .int .i64 0, .int .i64 0, .int .i64 0, .int .i64 0, .int .i64 0]) (size := 9) (bytes := 72) (by kernel_rfl)
  have HIR := Lib.hid hiR
  have HZR := Lib.hid (And.intro hzR0 (And.intro hzR1 hzR2))
  clear hiR hzR0 hzR1 hzR2
  obtain ⟨B, hB⟩ : ∃ B, B = w3.heap.size := ⟨_, rfl⟩
  rw [← hB] at HGS
  have HBS := Lib.hid (show B ≤ w3.heap.size by omega)
  clear hB
  go_wp2_with fail
  go_loopw [4, 9] (fun v4 v9 wr => ∃ (k : Nat) (ch : Array Value), k ≤ n ∧ v9 = .int .i64 k ∧ Hid (wr.ownsRow B 48 9 v4 k (zonNews k (bareZ d))) ∧ Hid (VRow n (fun j => .bool (hasB d k j)) ch) ∧ Hid (Ta w (some ⟨b, off, none⟩) h cb gB gL gH cl0 ch wr) ∧ Hid (B ≤ wr.heap.size)) (fun _ v9 _ => n - (intOf v9).toNat)
  case atStart => exact ⟨0, ch0, Nat.zero_le _, rfl, Lib.hid owns_none, Lib.hid (HR2.out.congr fun j hj => rfl), HF, HBS⟩
  case round =>
    clear HF HBS HR2
    obtain ⟨k, ch, hk, rfl, HOW, HR2, HF, HBS⟩ := hrel
    by_cases hlt : k < n
    · skip
      have hn12 := HN.out
      have hown := HOW.out
      obtain ⟨oL, cL, rfl, -⟩ := owns_form hown
      replace HOW := Lib.hid hown
      have HKN := Lib.hid hlt
      have HMD := Lib.hid (Nat.mod_lt (d k 1) (show 0 < k + 1 by omega))
      have HD1 := hdl.out k 1
      obtain ⟨m, hmm⟩ : ∃ m, m = d k 1 % (k + 1) := ⟨_, rfl⟩
      have t1 : ((d k 1 : Nat) : Int).tmod ((k : Int) + 1) = (m : Int) := by
        rw [Int.tmod_eq_emod_of_nonneg (by omega), hmm]
        exact (Int.natCast_emod _ (k + 1)).symm
      have x1 : ((k : Int) + 1 == 0) = false := by simp; omega
      have x2 : (k : Int) + 1 ≠ 0 := by omega
      have HP := Lib.hid (show prt d k = (m : Int) - 1 by rw [hmm]; rfl)
      rw [← hmm] at HMD
      have hm0 := HMD.out
      clear hown hmm
      have HSN := Lib.hid (zonNews_succ k (bareZ d))
      have HBZ := Lib.hid (show bareZ d k = ⟨⟨0, 0⟩, ⟨0, 0⟩, ⟨0, 0⟩, ⟨0, 0⟩, prt d k⟩ from rfl)
      obtain ⟨xs, hxs⟩ : ∃ l, l = zonNews k (bareZ d) := ⟨_, rfl⟩
      obtain ⟨ys, hys⟩ : ∃ l, l = zonNews (k + 1) (bareZ d) := ⟨_, rfl⟩
      have HXL := Lib.hid (zonNews_length k (bareZ d))
      rw [← hxs] at HOW HSN HXL
      rw [← hys] at HSN
      have HYS := Lib.hid hys
      clear hxs hys
      by_cases hmz : m = 0
      · have hs1 : (m : Int) - 1 = -1 := by omega
        rw [hs1] at HP
        rw [HBZ.out, HP.out] at HSN
        clear HBZ
        clear hmz
        go_wp2_with fail
        refine (HDR.out _ _ _ _ _ _ HF.out k 1 1 rfl (by omega) (by omega)).mono ?_
        rintro e wz ⟨rfl, hb⟩
        have HOW2 := Lib.hid (owns_below HOW.out hb)
        replace HBS := Lib.hid (Nat.le_trans HBS.out hb.size)
        replace HF := Lib.hid (HF.out.on hb)
        clear hb HOW
        have hbs := HBS.out
        have hnw := Lib.hid (zone_news (cs := #[.int .i64 0, .int .i64 0, .int .i64 0, .int .i64 0, .int .i64 0, .int .i64 0, .int .i64 0, .int .i64 0, .int .i64 (-1)]) (W := wz))
        go_wp2_with (at_builtin; refine wpList_append_gen rfl (.tmp 38) (.tmp 41) _ rfl B 48 iR _ 9 72 Try.underlying22 HIR.out HZR.out.1 HZR.out.2.1 HZR.out.2.2 rfl (by omega) (.slice oL k cL) k xs rfl (some ⟨wz.heap.size, 0, none⟩) 1 1 [.int .i64 0, .int .i64 0, .int .i64 0, .int .i64 0, .int .i64 0, .int .i64 0, .int .i64 0, .int .i64 0, .int .i64 (-1)] rfl (HOW2.out.alloc _) (fun e9 => by cases e9) rfl hnw.out one9 (by simp only [maxLen]; omega) (by omega) (by simp; omega) ?_; intro vS wS hownS hgrowS)
        have hbS : Below B wz wS := ((below_alloc1 wz _).mono HBS.out).trans (below_row HOW2.out hgrowS HBS.out)
        rw [← HSN.out, HYS.out] at hownS
        have HOW3 := Lib.hid hownS
        replace HF := Lib.hid (HF.out.far hbS (by have := HGS.out; omega) (by have := HGS.out; omega) (by have := HGS.out; omega) (by have := HGS.out; omega))
        replace HBS := Lib.hid (Nat.le_trans HBS.out hbS.size)
        clear hownS hgrowS hbS hnw
        clear hbs hn12 t1 x1 x2 hm0 hs1 HD1
        go_roundw
        case rel => exact ⟨k + 1, ch, by omega, by go_num, HOW3, Lib.hid (HR2.out.congr fun j hj => by rw [hasB_succ, HP.out]; simp), HF, HBS⟩
        case measure => simp [intOf]; omega
      · obtain ⟨q, hq⟩ : ∃ q, m = q + 1 := ⟨m - 1, by omega⟩
        have hs1 : (m : Int) - 1 = (q : Int) := by omega
        rw [hs1] at HP
        rw [HBZ.out, HP.out] at HSN
        clear HBZ
        clear hmz
        have HQ := Lib.hid (show q < k by omega)
        have hq0 : (0 : Int) ≤ (q : Int) := by omega
        have hq1 : (q : Int) < (n : Int) := by omega
        clear hq
        go_wp2_with fail
        refine (HDR.out _ _ _ _ _ _ HF.out k 1 1 rfl (by omega) (by omega)).mono ?_
        rintro e wz ⟨rfl, hb⟩
        have HOW2 := Lib.hid (owns_below HOW.out hb)
        replace HBS := Lib.hid (Nat.le_trans HBS.out hb.size)
        replace HF := Lib.hid (HF.out.on hb)
        clear hb HOW
        have hbs := HBS.out
        have hnw := Lib.hid (zone_news (cs := #[.int .i64 0, .int .i64 0, .int .i64 0, .int .i64 0, .int .i64 0, .int .i64 0, .int .i64 0, .int .i64 0, .int .i64 (q : Nat)]) (W := wz))
        go_upto_region 12 with (at_builtin; refine wpList_append_gen rfl (.tmp 38) (.tmp 41) _ rfl B 48 iR _ 9 72 Try.underlying22 HIR.out HZR.out.1 HZR.out.2.1 HZR.out.2.2 rfl (by omega) (.slice oL k cL) k xs rfl (some ⟨wz.heap.size, 0, none⟩) 1 1 [.int .i64 0, .int .i64 0, .int .i64 0, .int .i64 0, .int .i64 0, .int .i64 0, .int .i64 0, .int .i64 0, .int .i64 (q : Nat)] rfl (HOW2.out.alloc _) (fun e9 => by cases e9) rfl hnw.out one9 (by simp only [maxLen]; omega) (by omega) (by simp; omega) ?_; intro vS wS hownS hgrowS)
        have hbS : Below B wz wS := ((below_alloc1 wz _).mono HBS.out).trans (below_row HOW2.out hgrowS HBS.out)
        rw [← HSN.out, HYS.out] at hownS
        have HOW3 := Lib.hid hownS
        replace HF := Lib.hid (HF.out.far hbS (by have := HGS.out; omega) (by have := HGS.out; omega) (by have := HGS.out; omega) (by have := HGS.out; omega))
        replace HBS := Lib.hid (Nat.le_trans HBS.out hbS.size)
        clear hownS hgrowS hbS hnw
        clear hbs t1 x1 x2 hm0 HD1
        have hqn : q < n := by omega
        have hix : ∀ W : World, (Instr.indexAt 85 (.slice (some ⟨gH, 0, none⟩) n n) (.int .i64 (q : Nat))).run Try.prog W = .ok (.pointer (some ⟨gH, q, none⟩)) W := fun W => ix85 hqn W
        have d0 := HF.out.h.cell q (HR2.out.2 q hqn)
        have d1 := HF.out.h.frozen q
        have d2 := HF.out.h.lt
        go_wp2_with fail
        have ho := (Only.refl gH wS).setCell q (.bool true)
        have HOW4 := Lib.hid (owns_set (g := gH) (i := q) (u := .bool true) HOW3.out fun b9 e9 => by have h1 := (HOW3.out.lt b9 e9).1; have h2 := HGS.out; have h3 := HF.out.h.lt; omega)
        have HF4 := Lib.hid (show Ta w (some ⟨b, off, none⟩) h cb gB gL gH cl0 (ch.setIfInBounds q (.bool true)) (wS.setCell ⟨gH, q, none⟩ (.bool true)) from ⟨HF.out.low.trans (ho.below (by have := HGS.out; have := HF.out.low.size; omega)), ho.box HF.out.b (by have := HGS.out; omega), ho.box HF.out.l (by have := HGS.out; omega), HF.out.h.set q (.bool true)⟩)
        have HR4 := Lib.hid (show VRow n (fun j => .bool (hasB d (k + 1) j)) (ch.setIfInBounds q (.bool true)) from by
          have e1 : hasB d (k + 1) q = true := by rw [hasB_succ, HP.out]; simp
          have h9 := HR2.out.set (g := fun j => .bool (hasB d (k + 1) j)) hqn fun j hj hne => by
            have e2 : decide ((q : Int) = (j : Int)) = false := decide_eq_false (by omega)
            rw [hasB_succ, HP.out, e2, Bool.or_false]
          simp only [e1] at h9
          exact h9)
        replace HBS := Lib.hid (Nat.le_trans HBS.out (Nat.le_of_eq ho.size.symm))
        clear ho hix d0 d1 d2 HF HOW3 HR2
        go_roundw
        case rel => exact ⟨k + 1, _, hlt, by go_num, HOW4, HR4, HF4, HBS⟩
        case measure => simp [intOf]; omega
    · have hkn : n = k := by omega
      subst hkn
      obtain ⟨gZ, cZ, cz0, rfl, hgb, hbx, hzr⟩ := owns_zrow HOW.out (by have := HN.out; omega)
      have HG4 := Lib.hid (show w.heap.size ≤ gB ∧ gB < gL ∧ gL < gH ∧ gH < gZ from by have := HGS.out; omega)
      have HF2 := Lib.hid (show Tb w (some ⟨b, off, none⟩) h cb gB gL gH gZ cl0 ch cz0 wr from ⟨HF.out, hbx⟩)
      have HZ2 := Lib.hid (show ZRow n (fz d n (fun _ => 0)) cz0 from ⟨hzr.1, fun i hi k hk => by rw [fz_bare hi]; exact hzr.2 i hi k hk⟩)
      have HL2 := Lib.hid (show VRow n (fun j => .int .i64 ((fun _ => 0 : Nat → Int) j)) cl0 from HR1.out)
      have HT2 := Lib.hid (TS.start (d := d) n)
      have HH := HR2
      have hn12 := HN.out
      clear hgb hbx hzr HF HOW HR1 HR2 HBS HGS HIR HZR
      go_wp2_with fail
      go_loopw [11] (fun v11 wr => ∃ (k : Nat) (K : Int) (t : Nat → Int) (cl cz : Array Value), k ≤ n ∧ v11 = .int .i64 K ∧ K = (k : Int) - 1 ∧ Hid (TS d n k t) ∧ Hid (VRow n (fun j => .int .i64 (t j)) cl) ∧ Hid (ZRow n (fz d k t) cz) ∧ Hid (Tb w (some ⟨b, off, none⟩) h cb gB gL gH gZ cl ch cz wr)) (fun v11 _ => (intOf v11 + 1).toNat)
      case atStart => exact ⟨n, (n : Int) - 1, _, _, _, Nat.le_refl _, rfl, rfl, HT2, HL2, HZ2, HF2⟩
      case round =>
        clear HT2 HL2 HZ2 HF2
        obtain ⟨k, K, t, cl, cz, hk, rfl, hK, HT, HL, HZ, HF⟩ := hrel
        rcases k with _ | i
        · obtain rfl : K = -1 := by omega
          have HTR := Lib.hid HT.out.tru
          have HLT := Lib.hid (HT.out.list HN.out.1 HN.out.2)
          clear HT hK
          go_wp2_with fail
          refine bodyPost_ret (v := .tuple #[.slice (some ⟨gZ, 0, none⟩) n cZ, .slice (some ⟨gL, 0, none⟩) n n]) (by simp [results, Try.results22, go_sem]) rfl ⟨HF.out.a.low, n, gZ, cZ, gL, t, fz d 0 t, HN.out.1, HN.out.2, rfl, HZ.out.at_ HF.out.z, HLT.out, HTR.out, HF.out.a.l.lt, fun i hi => HF.out.a.l.cell i (HL.out.2 i hi)⟩
        · obtain rfl : K = (i : Int) := by omega
          have HIN := Lib.hid (show i < n by omega)
          have HT9 := HT
          have hi0 : (0 : Int) ≤ (i : Int) := by omega
          have hi1 : (i : Int) < (n : Int) := by omega
          have hd0 : decide ((0 : Int) ≤ (i : Int)) = true := decide_eq_true hi0
          have hixH : ∀ W : World, (Instr.indexAt 85 (.slice (some ⟨gH, 0, none⟩) n n) (.int .i64 (i : Nat))).run Try.prog W = .ok (.pointer (some ⟨gH, i, none⟩)) W := fun W => ix85 HIN.out W
          have c0 := HF.out.a.h.cell i (HH.out.2 i HIN.out)
          have l0 := HF.out.a.h.lt
          simp only at c0
          obtain ⟨hs, hhs⟩ : ∃ v, v = hasB d n i := ⟨_, rfl⟩
          rw [← hhs] at c0
          have HHS := Lib.hid hhs
          clear hhs hK hk
          go_upto_if 58 with fail
          clear c0 l0 hixH
          go_cut [] (fun wx => ∃ (t1 : Nat → Int) (cl1 : Array Value), Hid (TM d n i t1) ∧ Hid (∀ j, i < j → t1 j = t j) ∧ Hid (VRow n (fun j => .int .i64 (t1 j)) cl1) ∧ Hid (Tb w (some ⟨b, off, none⟩) h cb gB gL gH gZ cl1 ch cz wx))
          case first =>
            cases hs
            · have HD2 := hdl.out i 2
              obtain ⟨L, hL⟩ : ∃ m, m = d i 2 % 3000 := ⟨_, rfl⟩
              have t1 : ((d i 2 : Nat) : Int).tmod 3000 = (L : Int) := by
                rw [Int.tmod_eq_emod_of_nonneg (by omega), hL]
                exact (Int.natCast_emod _ 3000).symm
              have HTM := Lib.hid (HT.out.leaf (L := (L : Int)) HIN.out HHS.out.symm (by omega) (by omega))
              clear hL
              go_wp2_with fail
              refine (HDR.out _ _ _ _ _ _ HF.out.a i 2 2 rfl (by omega) (by omega)).mono ?_
              rintro e wz ⟨rfl, hb⟩
              replace HF := Lib.hid (HF.out.on hb)
              clear hb
              have hix : ∀ W : World, (Instr.indexAt 37 (.slice (some ⟨gL, 0, none⟩) n n) (.int .i64 (i : Nat))).run Try.prog W = .ok (.pointer (some ⟨gL, i, none⟩)) W := fun W => ix37 HIN.out W
              have d0 := HF.out.a.l.cell i (HL.out.2 i HIN.out)
              have d1 := HF.out.a.l.frozen i
              have d2 := HF.out.a.l.lt
              go_wp2_with fail
              go_meet
              exact ⟨_, _, HTM, Lib.hid fun j hj => updI_ne (by omega), Lib.hid (by
                have h9 := HL.out.set (g := fun j => .int .i64 (updI t i (L : Int) j)) HIN.out fun j _ hj => by simp only [updI_ne hj]
                simp only [updI_self] at h9
                exact h9), Lib.hid (HF.out.setL HG4.out ((Only.refl gL _).setCell i _) (HF.out.a.l.set i _))⟩
            · go_wp2_with fail
              go_meet
              exact ⟨t, cl, Lib.hid HT.out.inner, Lib.hid fun _ _ => rfl, HL, HF⟩
          case rest =>
            clear HT HL HF
            obtain ⟨t1, cl1, HT, HTE, HL, HF⟩ := hcut
            have hz8 : wc.cell? ⟨gZ, i * 9 + 8, none⟩ = some (.int .i64 (prt d i)) := HF.out.z.cell (i * 9 + 8) ((HZ.out.2 i HIN.out 8 (by omega)).trans (by rw [fz_bare (by omega)]; rfl))
            have lz := HF.out.z.lt
            have hixZ : ∀ W : World, (Instr.indexAt 22 (.slice (some ⟨gZ, 0, none⟩) n cZ) (.int .i64 (i : Nat))).run Try.prog W = .ok (.pointer (some ⟨gZ, i * 9, none⟩)) W := fun W => ixZ HIN.out W
            obtain ⟨P, hP⟩ : ∃ P, P = prt d i := ⟨_, rfl⟩
            rw [← hP] at hz8
            have HP := Lib.hid hP
            have HPB := Lib.hid (prt_bd (d := d) i)
            clear hP
            go_upto_if 72 with fail
            go_cut [] (fun wx => ∃ (t2 : Nat → Int) (cl2 : Array Value), Hid (TS d n i t2) ∧ Hid (∀ j, i < j → t2 j = t j) ∧ Hid (VRow n (fun j => .int .i64 (t2 j)) cl2) ∧ Hid (Tb w (some ⟨b, off, none⟩) h cb gB gL gH gZ cl2 ch cz wx))
            case first =>
              rw [← HP.out] at HPB
              by_cases hp : P = -1
              · subst hp
                have HTS := Lib.hid (HT.out.top hn12.2 HIN.out HP.out.symm)
                clear hz8 lz hixZ
                go_wp2_with fail
                go_meet
                exact ⟨t1, cl1, HTS, HTE, HL, HF⟩
              · obtain ⟨q, hq⟩ : ∃ q : Nat, P = (q : Int) := ⟨P.toNat, by have := HPB.out; omega⟩
                subst hq
                have hqi : q < i := by have := HPB.out; omega
                have hq0 : (0 : Int) ≤ (q : Int) := by omega
                have hq1 : (q : Int) < (n : Int) := by omega
                have hqd : decide ((0 : Int) ≤ (q : Int)) = true := decide_eq_true hq0
                have HTS := Lib.hid (HT.out.up hn12.2 HIN.out HP.out.symm)
                have b1 := HT.out.le hn12.2 HIN.out
                have b2 := HT.out.le2 hn12.2 HIN.out hqi
                obtain ⟨b11, b12⟩ := b1
                obtain ⟨b21, b22⟩ := b2
                have HQN := Lib.hid (show q < n by omega)
                have HQI := Lib.hid hqi
                clear hp hz8 lz hixZ hqi
                go_upto_region 19 with fail
                have hP0 : ∀ A B : World, Below wc.heap.size wc A → Below A.heap.size A B → Below wc.heap.size wc B := fun A B h1 h2 => h1.trans (h2.mono h1.size)
                have hP1 : ∀ A B : World, gL < A.heap.size → Below A.heap.size A B → gL < B.heap.size := fun _ _ h1 h2 => Nat.lt_of_lt_of_le h1 h2.size
                have hP01 : ∀ A : World, Below wc.heap.size wc A → gL < A.heap.size := fun _ h1 => Nat.lt_of_lt_of_le HF.out.a.l.lt h1.size
                have hC0 : Below wc.heap.size wc wc.drew := (Below.refl _ _).drew
                refine wp_region_phase 20 (fun A => Below wc.heap.size wc A) (fun A => gL < A.heap.size) (by kernel_rfl) ?_
                (refine wpAnyP_take0 (i := 0) hP0 hP1 hC0 (by decide) (by rfl) rfl (by kernel_rfl) rfl (by kernel_rfl) (by kernel_rfl) (by kernel_rfl) (fun _ _ _ _ h => h) (by rfl) ?_; apply Exists.intro; refine ⟨fun w1 h1 K hK => ?_, ?_⟩; · ( go_big_quiet_op; first | exact hK | fail))
                (refine wpAnyP_take0 (i := 1) hP0 hP1 hC0 (by decide) (by rfl) rfl (by kernel_rfl) rfl (by kernel_rfl) (by kernel_rfl) (by kernel_rfl) (fun _ _ _ _ h => h) (by rfl) ?_; apply Exists.intro; refine ⟨fun w1 h1 K hK => ?_, ?_⟩; · ( go_big_quiet_op; first | exact hK | fail))
                (refine wpAnyP_take0 (i := 2) hP0 hP1 hC0 (by decide) (by rfl) rfl (by kernel_rfl) rfl (by kernel_rfl) (by kernel_rfl) (by kernel_rfl) (fun _ _ _ _ h => h) (by rfl) ?_; apply Exists.intro; refine ⟨fun w1 h1 K hK => ?_, ?_⟩; · ( go_big_quiet_op; first | exact hK | fail))
                (refine wpAnyP_take0 (i := 3) hP0 hP1 hC0 (by decide) (by rfl) rfl (by kernel_rfl) rfl (by kernel_rfl) (by kernel_rfl) (by kernel_rfl) (fun _ _ _ _ h => h) (by rfl) ?_; apply Exists.intro; refine ⟨fun w1 h1 K hK => ?_, ?_⟩; · ( go_big_quiet_op; first | exact hK | fail))
                (refine wpAnyP_take0 (i := 4) hP0 hP1 hC0 (by decide) (by rfl) rfl (by kernel_rfl) rfl (by kernel_rfl) (by kernel_rfl) (by kernel_rfl) (fun _ _ _ _ h => h) (by rfl) ?_; apply Exists.intro; refine ⟨fun w1 h1 K hK => ?_, ?_⟩; · (have q9 : ∀ V : Aft w1, gZ < V.val.heap.size := fun V => (HF.out.z.below (hP0 _ _ h1 V.below)).lt; go_big_quiet_op; first | exact hK | fail))
                (refine wpAnyP_take0 (i := 5) hP0 hP1 hC0 (by decide) (by rfl) rfl (by kernel_rfl) rfl (by kernel_rfl) (by kernel_rfl) (by kernel_rfl) (fun _ _ _ _ h => h) (by rfl) ?_; apply Exists.intro; refine ⟨fun w1 h1 K hK => ?_, ?_⟩; · (have q9 : ∀ V : Aft w1, V.val.cell? ⟨gZ, i * 9 + 8, none⟩ = some (.int .i64 (q : Nat)) := fun V => (HF.out.z.below (hP0 _ _ h1 V.below)).cell (i * 9 + 8) ((HZ.out.2 i HIN.out 8 (by omega)).trans (by rw [fz_bare (by omega)]; show some (Value.int .i64 (prt d i)) = _; rw [← HP.out])); go_big_quiet_op; first | exact hK | fail))
                (refine wpAnyP_take0 (i := 6) hP0 hP1 hC0 (by decide) (by rfl) rfl (by kernel_rfl) rfl (by kernel_rfl) (by kernel_rfl) (by kernel_rfl) (fun _ _ _ _ h => h) (by rfl) ?_; apply Exists.intro; refine ⟨fun w1 h1 K hK => ?_, ?_⟩; · ( go_big_quiet_op; first | exact hK | fail))
                (refine wpAnyP_take0 (i := 7) hP0 hP1 hC0 (by decide) (by rfl) rfl (by kernel_rfl) rfl (by kernel_rfl) (by kernel_rfl) (by kernel_rfl) (fun _ _ _ _ h => h) (by rfl) ?_; apply Exists.intro; refine ⟨fun w1 h1 K hK => ?_, ?_⟩; · ( go_big_quiet_op; first | exact hK | fail))
                (refine wpAnyP_take0 (i := 8) hP0 hP1 hC0 (by decide) (by rfl) rfl (by kernel_rfl) rfl (by kernel_rfl) (by kernel_rfl) (by kernel_rfl) (fun _ _ _ _ h => h) (by rfl) ?_; apply Exists.intro; refine ⟨fun w1 h1 K hK => ?_, ?_⟩; · ( go_big_quiet_op; first | exact hK | fail))
                (refine wpAnyP_take0 (i := 9) hP0 hP1 hC0 (by decide) (by rfl) rfl (by kernel_rfl) rfl (by kernel_rfl) (by kernel_rfl) (by kernel_rfl) (fun _ _ _ _ h => h) (by rfl) ?_; apply Exists.intro; refine ⟨fun w1 h1 K hK => ?_, ?_⟩; · ( go_big_quiet_op; first | exact hK | fail))
                (refine wpAnyP_take0 (i := 10) hP0 hP1 hC0 (by decide) (by rfl) rfl (by kernel_rfl) rfl (by kernel_rfl) (by kernel_rfl) (by kernel_rfl) (fun _ _ _ _ h => h) (by rfl) ?_; apply Exists.intro; refine ⟨fun w1 h1 K hK => ?_, ?_⟩; · (have q9 : ∀ V : Aft w1, gZ < V.val.heap.size := fun V => (HF.out.z.below (hP0 _ _ h1 V.below)).lt; go_big_quiet_op; first | exact hK | fail))
                (refine wpAnyP_take0 (i := 11) hP0 hP1 hC0 (by decide) (by rfl) rfl (by kernel_rfl) rfl (by kernel_rfl) (by kernel_rfl) (by kernel_rfl) (fun _ _ _ _ h => h) (by rfl) ?_; apply Exists.intro; refine ⟨fun w1 h1 K hK => ?_, ?_⟩; · (have q9 : ∀ V : Aft w1, V.val.cell? ⟨gZ, i * 9 + 8, none⟩ = some (.int .i64 (q : Nat)) := fun V => (HF.out.z.below (hP0 _ _ h1 V.below)).cell (i * 9 + 8) ((HZ.out.2 i HIN.out 8 (by omega)).trans (by rw [fz_bare (by omega)]; show some (Value.int .i64 (prt d i)) = _; rw [← HP.out])); go_big_quiet_op; first | exact hK | fail))
                (refine wpAnyP_take0 (i := 12) hP0 hP1 hC0 (by decide) (by rfl) rfl (by kernel_rfl) rfl (by kernel_rfl) (by kernel_rfl) (by kernel_rfl) (fun _ _ _ _ h => h) (by rfl) ?_; apply Exists.intro; refine ⟨fun w1 h1 K hK => ?_, ?_⟩; · ( go_big_quiet_op; first | exact hK | fail))
                (refine wpAnyP_take0 (i := 13) hP0 hP1 hC0 (by decide) (by rfl) rfl (by kernel_rfl) rfl (by kernel_rfl) (by kernel_rfl) (by kernel_rfl) (fun _ _ _ _ h => h) (by rfl) ?_; apply Exists.intro; refine ⟨fun w1 h1 K hK => ?_, ?_⟩; · (have q8 : ∀ V : Aft w1, gL < V.val.heap.size := fun V => (HF.out.a.l.below (hP0 _ _ h1 V.below)).lt; have q9 : ∀ V : Aft w1, V.val.cell? ⟨gL, q, none⟩ = some (.int .i64 (t1 q)) := fun V => (HF.out.a.l.below (hP0 _ _ h1 V.below)).cell q (HL.out.2 q HQN.out); go_big_quiet_op; first | exact hK | fail))
                (refine wpAnyP_take0 (i := 14) hP0 hP1 hC0 (by decide) (by rfl) rfl (by kernel_rfl) rfl (by kernel_rfl) (by kernel_rfl) (by kernel_rfl) (fun _ _ _ _ h => h) (by rfl) ?_; apply Exists.intro; refine ⟨fun w1 h1 K hK => ?_, ?_⟩; · ( go_big_quiet_op; first | exact hK | fail))
                (refine wpAnyP_take0 (i := 15) hP0 hP1 hC0 (by decide) (by rfl) rfl (by kernel_rfl) rfl (by kernel_rfl) (by kernel_rfl) (by kernel_rfl) (fun _ _ _ _ h => h) (by rfl) ?_; apply Exists.intro; refine ⟨fun w1 h1 K hK => ?_, ?_⟩; · ( go_big_quiet_op; first | exact hK | fail))
                (refine wpAnyP_take0 (i := 16) hP0 hP1 hC0 (by decide) (by rfl) rfl (by kernel_rfl) rfl (by kernel_rfl) (by kernel_rfl) (by kernel_rfl) (fun _ _ _ _ h => h) (by rfl) ?_; apply Exists.intro; refine ⟨fun w1 h1 K hK => ?_, ?_⟩; · ( go_big_quiet_op; first | exact hK | fail))
                (refine wpAnyP_take0 (i := 17) hP0 hP1 hC0 (by decide) (by rfl) rfl (by kernel_rfl) rfl (by kernel_rfl) (by kernel_rfl) (by kernel_rfl) (fun _ _ _ _ h => h) (by rfl) ?_; apply Exists.intro; refine ⟨fun w1 h1 K hK => ?_, ?_⟩; · (have q8 : ∀ V : Aft w1, gL < V.val.heap.size := fun V => (HF.out.a.l.below (hP0 _ _ h1 V.below)).lt; have q9 : ∀ V : Aft w1, V.val.cell? ⟨gL, i, none⟩ = some (.int .i64 (t1 i)) := fun V => (HF.out.a.l.below (hP0 _ _ h1 V.below)).cell i (HL.out.2 i HIN.out); go_big_quiet_op; first | exact hK | fail))
                (refine wpAnyP_take0 (i := 18) hP0 hP1 hC0 (by decide) (by rfl) rfl (by kernel_rfl) rfl (by kernel_rfl) (by kernel_rfl) (by kernel_rfl) (fun _ _ _ _ h => h) (by rfl) ?_; apply Exists.intro; refine ⟨fun w1 h1 K hK => ?_, ?_⟩; · ( go_big_quiet_op; first | exact hK | fail))
                (refine wpAnyP_take0 (i := 19) hP0 hP1 hC0 (by decide) (by rfl) rfl (by kernel_rfl) rfl (by kernel_rfl) (by kernel_rfl) (by kernel_rfl) (fun _ _ _ _ h => h) (by rfl) ?_; apply Exists.intro; refine ⟨fun w1 h1 K hK => ?_, ?_⟩; · ( go_big_quiet_op; first | exact hK | fail))
                (refine wpAnyP_one (i := 20) (by kernel_rfl) rfl (by rfl) (fun wa hwa K hK => ?_))
                have hA1 := hP0 _ _ hC0 hwa
                refine wp_store_int (HF.out.a.l.below hA1) rfl rfl rfl (by have h1 := HL.out.1; have h2 := HQN.out; omega) (by kernel_rfl) (fun wb zs ho => ?_)
                dsimp only [Act.put]
                refine hK _ _ zs.lt ?_
                clear hK K
                refine wpAnyP_done (by kernel_rfl) (fun wz hwz => ?_) _
                have HF5 := Lib.hid (((HF.out.on hA1).setL HG4.out ho zs).on hwz)
                clear hP0 hP1 hP01 hC0 hA1 zs ho hwa hwz
                go_wp2_with fail
                go_meet
                exact ⟨_, _, HTS, Lib.hid fun j hj => by rw [updI_ne (by have := HQI.out; omega)]; exact HTE.out j hj, Lib.hid (by
                  have h9 := HL.out.set (g := fun j => .int .i64 (updI t1 q (t1 q + t1 i) j)) HQN.out fun j _ hj => by simp only [updI_ne hj]
                  simp only [updI_self] at h9
                  exact h9), HF5⟩
            case rest =>
              clear HT HL HF HTE hz8 lz hixZ
              obtain ⟨t2, cl2, HT, HTE, HL, HF⟩ := hcut
              have hd3 := hdl.out i 3
              have hd4 := hdl.out i 4
              have hd5 := hdl.out i 5
              obtain ⟨G, hG⟩ : ∃ m, m = d i 3 % 5000 := ⟨_, rfl⟩
              obtain ⟨LW, hLW⟩ : ∃ m, m = d i 4 % 200 := ⟨_, rfl⟩
              obtain ⟨E1, hE1⟩ : ∃ m, m = d i 4 % 40 := ⟨_, rfl⟩
              obtain ⟨E2, hE2⟩ : ∃ m, m = d i 5 % 40 := ⟨_, rfl⟩
              have tG : ((d i 3 : Nat) : Int).tmod 5000 = (G : Int) := by rw [Int.tmod_eq_emod_of_nonneg (by omega), hG]; exact (Int.natCast_emod _ 5000).symm
              have tL : ((d i 4 : Nat) : Int).tmod 200 = (LW : Int) := by rw [Int.tmod_eq_emod_of_nonneg (by omega), hLW]; exact (Int.natCast_emod _ 200).symm
              have tE : (-((d i 4 : Nat) : Int)).tmod 40 = -(E1 : Int) := by rw [Int.neg_tmod, Int.tmod_eq_emod_of_nonneg (by omega), hE1]; congr 1
              have tF : ((d i 5 : Nat) : Int).tmod 40 = (E2 : Int) := by rw [Int.tmod_eq_emod_of_nonneg (by omega), hE2]; exact (Int.natCast_emod _ 40).symm
              have bG : G < 5000 := by omega
              have bL : LW < 200 := by omega
              have bE : E1 < 40 := by omega
              have bF : E2 < 40 := by omega
              have HFZ := Lib.hid (show finZ d (t2 i) i = ⟨abt (t2 i + (G : Int) + (LW : Int)) (d i 5) (d i 6), abt (G : Int) (d i 6) (d i 2), ⟨-(E1 : Int), (E2 : Int)⟩, abt (LW : Int) (d i 3) (d i 1), prt d i⟩ by rw [hG, hLW, hE1, hE2]; rfl)
              clear hG hLW hE1 hE2
              have bT1 := HT.out.nn i HIN.out
              have bT2 := HT.out.bd i (Nat.le_refl _) HIN.out
              have HST := Lib.hid (show ZRow n (updZ (fz d (i + 1) t) i (bareZ d i)) cz from by
                have e9 : updZ (fz d (i + 1) t) i (bareZ d i) = fz d (i + 1) t := by
                  funext j
                  by_cases e : j = i
                  · subst e; rw [updZ_self, fz_bare (by omega)]
                  · rw [updZ_ne e]
                rw [e9]; exact HZ.out)
              have HSP := Lib.hid (fz_step (d := d) (t := t) (s := t2) (i := i) HTE.out)
              go_wp2_with fail
              refine (HDR.out _ _ _ _ _ _ HF.out.a i 3 3 rfl (by omega) (by omega)).mono ?_
              rintro e wx1 ⟨rfl, hb⟩
              replace HF := Lib.hid (HF.out.on hb)
              clear hb
              go_wp2_with fail
              refine (HDR.out _ _ _ _ _ _ HF.out.a i 4 4 rfl (by omega) (by omega)).mono ?_
              rintro e wx ⟨rfl, hb⟩
              replace HF := Lib.hid (HF.out.on hb)
              clear hb
              go_upto_region 21 with fail
              have hP0 : ∀ A B : World, Below wx.heap.size wx A → Below A.heap.size A B → Below wx.heap.size wx B := fun A B h1 h2 => h1.trans (h2.mono h1.size)
              have hP1 : ∀ A B : World, gZ < A.heap.size → Below A.heap.size A B → gZ < B.heap.size := fun _ _ h1 h2 => Nat.lt_of_lt_of_le h1 h2.size
              have hP01 : ∀ A : World, Below wx.heap.size wx A → gZ < A.heap.size := fun _ h1 => Nat.lt_of_lt_of_le HF.out.z.lt h1.size
              have hC0 : Below wx.heap.size wx wx.drew := (Below.refl _ _).drew
              refine wp_region_phase 39 (fun A => Below wx.heap.size wx A) (fun A => gZ < A.heap.size) (by kernel_rfl) ?_
              (refine wpAnyP_take0 (i := 0) hP0 hP1 hC0 (by decide) (by rfl) rfl (by kernel_rfl) rfl (by kernel_rfl) (by kernel_rfl) (by kernel_rfl) (fun _ _ _ _ h => h) (by rfl) ?_; apply Exists.intro; refine ⟨fun w1 h1 K hK => ?_, ?_⟩; · ( go_big_quiet_op; first | exact hK | fail))
              (refine wpAnyP_take0 (i := 1) hP0 hP1 hC0 (by decide) (by rfl) rfl (by kernel_rfl) rfl (by kernel_rfl) (by kernel_rfl) (by kernel_rfl) (fun _ _ _ _ h => h) (by rfl) ?_; apply Exists.intro; refine ⟨fun w1 h1 K hK => ?_, ?_⟩; · ( go_big_quiet_op; first | exact hK | fail))
              (refine wpAnyP_take1 (i := 2) hP0 hP1 hP01 hC0 (by decide) rfl (by kernel_rfl) (by kernel_rfl) (by kernel_rfl) (fun _ _ _ _ h => h) (by rfl) ?_; apply Exists.intro; refine ⟨fun w1 h1 K hK => ?_, ?_⟩; · ( go_big_quiet_op; first | exact hK | fail))
              (refine wpAnyP_take1 (i := 3) hP0 hP1 hP01 hC0 (by decide) rfl (by kernel_rfl) (by kernel_rfl) (by kernel_rfl) (fun _ _ _ _ h => h) (by rfl) ?_; apply Exists.intro; refine ⟨fun w1 h1 K hK => ?_, ?_⟩; · ( go_big_quiet_op; first | exact hK | fail))
              (refine wpAnyP_take1 (i := 4) hP0 hP1 hP01 hC0 (by decide) rfl (by kernel_rfl) (by kernel_rfl) (by kernel_rfl) (fun _ _ _ _ h => h) (by rfl) ?_; apply Exists.intro; refine ⟨fun w1 h1 K hK => ?_, ?_⟩; · ( go_big_quiet_op; first | exact hK | fail))
              (refine wpAnyP_take1 (i := 5) hP0 hP1 hP01 hC0 (by decide) rfl (by kernel_rfl) (by kernel_rfl) (by kernel_rfl) (fun _ _ _ _ h => h) (by rfl) ?_; apply Exists.intro; refine ⟨fun w1 h1 K hK => ?_, ?_⟩; · ( go_big_quiet_op; first | exact hK | fail))
              (refine wpAnyP_take0 (i := 6) hP0 hP1 hC0 (by decide) (by rfl) rfl (by kernel_rfl) rfl (by kernel_rfl) (by kernel_rfl) (by kernel_rfl) (fun _ _ _ _ h => h) (by rfl) ?_; apply Exists.intro; refine ⟨fun w1 h1 K hK => ?_, ?_⟩; · ( go_big_quiet_op; first | exact hK | fail))
              (refine wpAnyP_take0 (i := 7) hP0 hP1 hC0 (by decide) (by rfl) rfl (by kernel_rfl) rfl (by kernel_rfl) (by kernel_rfl) (by kernel_rfl) (fun _ _ _ _ h => h) (by rfl) ?_; apply Exists.intro; refine ⟨fun w1 h1 K hK => ?_, ?_⟩; · ( go_big_quiet_op; first | exact hK | fail))
              (refine wpAnyP_take0 (i := 8) hP0 hP1 hC0 (by decide) (by rfl) rfl (by kernel_rfl) rfl (by kernel_rfl) (by kernel_rfl) (by kernel_rfl) (fun _ _ _ _ h => h) (by rfl) ?_; apply Exists.intro; refine ⟨fun w1 h1 K hK => ?_, ?_⟩; · ( go_big_quiet_op; first | exact hK | fail))
              (refine wpAnyP_take0 (i := 9) hP0 hP1 hC0 (by decide) (by rfl) rfl (by kernel_rfl) rfl (by kernel_rfl) (by kernel_rfl) (by kernel_rfl) (fun _ _ _ _ h => h) (by rfl) ?_; apply Exists.intro; refine ⟨fun w1 h1 K hK => ?_, ?_⟩; · (have q8 : ∀ V : Aft w1, gL < V.val.heap.size := fun V => (HF.out.a.l.below (hP0 _ _ h1 V.below)).lt; have q9 : ∀ V : Aft w1, V.val.cell? ⟨gL, i, none⟩ = some (.int .i64 (t2 i)) := fun V => (HF.out.a.l.below (hP0 _ _ h1 V.below)).cell i (HL.out.2 i HIN.out); go_big_quiet_op; first | exact hK | fail))
              (refine wpAnyP_take0 (i := 10) hP0 hP1 hC0 (by decide) (by rfl) rfl (by kernel_rfl) rfl (by kernel_rfl) (by kernel_rfl) (by kernel_rfl) (fun _ _ _ _ h => h) (by rfl) ?_; apply Exists.intro; refine ⟨fun w1 h1 K hK => ?_, ?_⟩; · ( go_big_quiet_op; first | exact hK | fail))
              (refine wpAnyP_take0 (i := 11) hP0 hP1 hC0 (by decide) (by rfl) rfl (by kernel_rfl) rfl (by kernel_rfl) (by kernel_rfl) (by kernel_rfl) (fun _ _ _ _ h => h) (by rfl) ?_; apply Exists.intro; refine ⟨fun w1 h1 K hK => ?_, ?_⟩; · ( go_big_quiet_op; first | exact hK | fail))
              (refine wpAnyP_take0 (i := 12) hP0 hP1 hC0 (by decide) (by rfl) rfl (by kernel_rfl) rfl (by kernel_rfl) (by kernel_rfl) (by kernel_rfl) (fun _ _ _ _ h => h) (by rfl) ?_; apply Exists.intro; refine ⟨fun w1 h1 K hK => ?_, ?_⟩; · ( go_big_quiet_op; first | exact hK | fail))
              (refine wpAnyP_take0 (i := 13) hP0 hP1 hC0 (by decide) (by rfl) rfl (by kernel_rfl) rfl (by kernel_rfl) (by kernel_rfl) (by kernel_rfl) (fun _ _ _ _ h => h) (by rfl) ?_; apply Exists.intro; refine ⟨fun w1 h1 K hK => ?_, ?_⟩; · ( go_big_quiet_op; first | exact hK | fail))
              (refine wpAnyP_take0 (i := 14) hP0 hP1 hC0 (by decide) (by rfl) rfl (by kernel_rfl) rfl (by kernel_rfl) (by kernel_rfl) (by kernel_rfl) (fun _ _ _ _ h => h) (by rfl) ?_; apply Exists.intro; refine ⟨fun w1 h1 K hK => ?_, ?_⟩; · ( go_big_quiet_op; first | exact hK | fail))
              (refine wpAnyP_take0 (i := 15) hP0 hP1 hC0 (by decide) (by rfl) rfl (by kernel_rfl) rfl (by kernel_rfl) (by kernel_rfl) (by kernel_rfl) (fun _ _ _ _ h => h) (by rfl) ?_; apply Exists.intro; refine ⟨fun w1 h1 K hK => ?_, ?_⟩; · ( go_big_quiet_op; first | exact hK | fail))
              (refine wpAnyP_take0 (i := 16) hP0 hP1 hC0 (by decide) (by rfl) rfl (by kernel_rfl) rfl (by kernel_rfl) (by kernel_rfl) (by kernel_rfl) (fun _ _ _ _ h => h) (by rfl) ?_; apply Exists.intro; refine ⟨fun w1 h1 K hK => ?_, ?_⟩; · ( go_big_quiet_op; first | exact hK | exact ⟨_, fun W => aft_call (HDR.out _ _ _ _ _ _ (HF.out.a.on (hP0 _ _ h1 W.below)) i 5 5 rfl (by omega) (by omega)), hK⟩))
              (refine wpAnyP_take0 (i := 17) hP0 hP1 hC0 (by decide) (by rfl) rfl (by kernel_rfl) rfl (by kernel_rfl) (by kernel_rfl) (by kernel_rfl) (fun _ _ _ _ h => h) (by rfl) ?_; apply Exists.intro; refine ⟨fun w1 h1 K hK => ?_, ?_⟩; · ( go_big_quiet_op; first | exact hK | fail))
              (refine wpAnyP_take0 (i := 18) hP0 hP1 hC0 (by decide) (by rfl) rfl (by kernel_rfl) rfl (by kernel_rfl) (by kernel_rfl) (by kernel_rfl) (fun _ _ _ _ h => h) (by rfl) ?_; apply Exists.intro; refine ⟨fun w1 h1 K hK => ?_, ?_⟩; · ( go_big_quiet_op; first | exact hK | fail))
              (refine wpAnyP_take0 (i := 19) hP0 hP1 hC0 (by decide) (by rfl) rfl (by kernel_rfl) rfl (by kernel_rfl) (by kernel_rfl) (by kernel_rfl) (fun _ _ _ _ h => h) (by rfl) ?_; apply Exists.intro; refine ⟨fun w1 h1 K hK => ?_, ?_⟩; · ( go_big_quiet_op; first | exact hK | exact ⟨_, fun W => aft_call (HDR.out _ _ _ _ _ _ (HF.out.a.on (hP0 _ _ h1 W.below)) i 6 6 rfl (by omega) (by omega)), hK⟩))
              (refine wpAnyP_take0 (i := 20) hP0 hP1 hC0 (by decide) (by rfl) rfl (by kernel_rfl) rfl (by kernel_rfl) (by kernel_rfl) (by kernel_rfl) (fun _ _ _ _ h => h) (by rfl) ?_; apply Exists.intro; refine ⟨fun w1 h1 K hK => ?_, ?_⟩; · ( go_big_quiet_op; first | exact hK | exact ⟨_, fun W => aft_call (about_any _ _ _ _ (by omega) (by omega) (hdl.out i 5) (hdl.out i 6)), hK⟩))
              (refine wpAnyP_take1 (i := 21) hP0 hP1 hP01 hC0 (by decide) rfl (by kernel_rfl) (by kernel_rfl) (by kernel_rfl) (fun _ _ _ _ h => h) (by rfl) ?_; apply Exists.intro; refine ⟨fun w1 h1 K hK => ?_, ?_⟩; · ( go_big_quiet_op; first | exact hK | fail))
              (refine wpAnyP_take1 (i := 22) hP0 hP1 hP01 hC0 (by decide) rfl (by kernel_rfl) (by kernel_rfl) (by kernel_rfl) (fun _ _ _ _ h => h) (by rfl) ?_; apply Exists.intro; refine ⟨fun w1 h1 K hK => ?_, ?_⟩; · ( go_big_quiet_op; first | exact hK | fail))
              (refine wpAnyP_take1 (i := 23) hP0 hP1 hP01 hC0 (by decide) rfl (by kernel_rfl) (by kernel_rfl) (by kernel_rfl) (fun _ _ _ _ h => h) (by rfl) ?_; apply Exists.intro; refine ⟨fun w1 h1 K hK => ?_, ?_⟩; · ( go_big_quiet_op; first | exact hK | fail))
              (refine wpAnyP_take0 (i := 24) hP0 hP1 hC0 (by decide) (by rfl) rfl (by kernel_rfl) rfl (by kernel_rfl) (by kernel_rfl) (by kernel_rfl) (fun _ _ _ _ h => h) (by rfl) ?_; apply Exists.intro; refine ⟨fun w1 h1 K hK => ?_, ?_⟩; · ( go_big_quiet_op; first | exact hK | exact ⟨_, fun W => aft_call (HDR.out _ _ _ _ _ _ (HF.out.a.on (hP0 _ _ h1 W.below)) i 6 6 rfl (by omega) (by omega)), hK⟩))
              (refine wpAnyP_take1 (i := 25) hP0 hP1 hP01 hC0 (by decide) rfl (by kernel_rfl) (by kernel_rfl) (by kernel_rfl) (fun _ _ _ _ h => h) (by rfl) ?_; apply Exists.intro; refine ⟨fun w1 h1 K hK => ?_, ?_⟩; · ( go_big_quiet_op; first | exact hK | fail))
              (refine wpAnyP_take1 (i := 26) hP0 hP1 hP01 hC0 (by decide) rfl (by kernel_rfl) (by kernel_rfl) (by kernel_rfl) (fun _ _ _ _ h => h) (by rfl) ?_; apply Exists.intro; refine ⟨fun w1 h1 K hK => ?_, ?_⟩; · ( go_big_quiet_op; first | exact hK | fail))
              (refine wpAnyP_take0 (i := 27) hP0 hP1 hC0 (by decide) (by rfl) rfl (by kernel_rfl) rfl (by kernel_rfl) (by kernel_rfl) (by kernel_rfl) (fun _ _ _ _ h => h) (by rfl) ?_; apply Exists.intro; refine ⟨fun w1 h1 K hK => ?_, ?_⟩; · ( go_big_quiet_op; first | exact hK | exact ⟨_, fun W => aft_call (HDR.out _ _ _ _ _ _ (HF.out.a.on (hP0 _ _ h1 W.below)) i 2 2 rfl (by omega) (by omega)), hK⟩))
              (refine wpAnyP_take0 (i := 28) hP0 hP1 hC0 (by decide) (by rfl) rfl (by kernel_rfl) rfl (by kernel_rfl) (by kernel_rfl) (by kernel_rfl) (fun _ _ _ _ h => h) (by rfl) ?_; apply Exists.intro; refine ⟨fun w1 h1 K hK => ?_, ?_⟩; · ( go_big_quiet_op; first | exact hK | exact ⟨_, fun W => aft_call (about_any _ _ _ _ (by omega) (by omega) (hdl.out i 6) (hdl.out i 2)), hK⟩))
              (refine wpAnyP_take1 (i := 29) hP0 hP1 hP01 hC0 (by decide) rfl (by kernel_rfl) (by kernel_rfl) (by kernel_rfl) (fun _ _ _ _ h => h) (by rfl) ?_; apply Exists.intro; refine ⟨fun w1 h1 K hK => ?_, ?_⟩; · ( go_big_quiet_op; first | exact hK | fail))
              (refine wpAnyP_take1 (i := 30) hP0 hP1 hP01 hC0 (by decide) rfl (by kernel_rfl) (by kernel_rfl) (by kernel_rfl) (fun _ _ _ _ h => h) (by rfl) ?_; apply Exists.intro; refine ⟨fun w1 h1 K hK => ?_, ?_⟩; · ( go_big_quiet_op; first | exact hK | fail))
              (refine wpAnyP_take1 (i := 31) hP0 hP1 hP01 hC0 (by decide) rfl (by kernel_rfl) (by kernel_rfl) (by kernel_rfl) (fun _ _ _ _ h => h) (by rfl) ?_; apply Exists.intro; refine ⟨fun w1 h1 K hK => ?_, ?_⟩; · ( go_big_quiet_op; first | exact hK | fail))
              (refine wpAnyP_take0 (i := 32) hP0 hP1 hC0 (by decide) (by rfl) rfl (by kernel_rfl) rfl (by kernel_rfl) (by kernel_rfl) (by kernel_rfl) (fun _ _ _ _ h => h) (by rfl) ?_; apply Exists.intro; refine ⟨fun w1 h1 K hK => ?_, ?_⟩; · ( go_big_quiet_op; first | exact hK | exact ⟨_, fun W => aft_call (HDR.out _ _ _ _ _ _ (HF.out.a.on (hP0 _ _ h1 W.below)) i 3 3 rfl (by omega) (by omega)), hK⟩))
              (refine wpAnyP_take1 (i := 33) hP0 hP1 hP01 hC0 (by decide) rfl (by kernel_rfl) (by kernel_rfl) (by kernel_rfl) (fun _ _ _ _ h => h) (by rfl) ?_; apply Exists.intro; refine ⟨fun w1 h1 K hK => ?_, ?_⟩; · ( go_big_quiet_op; first | exact hK | fail))
              (refine wpAnyP_take1 (i := 34) hP0 hP1 hP01 hC0 (by decide) rfl (by kernel_rfl) (by kernel_rfl) (by kernel_rfl) (fun _ _ _ _ h => h) (by rfl) ?_; apply Exists.intro; refine ⟨fun w1 h1 K hK => ?_, ?_⟩; · ( go_big_quiet_op; first | exact hK | fail))
              (refine wpAnyP_take0 (i := 35) hP0 hP1 hC0 (by decide) (by rfl) rfl (by kernel_rfl) rfl (by kernel_rfl) (by kernel_rfl) (by kernel_rfl) (fun _ _ _ _ h => h) (by rfl) ?_; apply Exists.intro; refine ⟨fun w1 h1 K hK => ?_, ?_⟩; · ( go_big_quiet_op; first | exact hK | exact ⟨_, fun W => aft_call (HDR.out _ _ _ _ _ _ (HF.out.a.on (hP0 _ _ h1 W.below)) i 1 1 rfl (by omega) (by omega)), hK⟩))
              (refine wpAnyP_take0 (i := 36) hP0 hP1 hC0 (by decide) (by rfl) rfl (by kernel_rfl) rfl (by kernel_rfl) (by kernel_rfl) (by kernel_rfl) (fun _ _ _ _ h => h) (by rfl) ?_; apply Exists.intro; refine ⟨fun w1 h1 K hK => ?_, ?_⟩; · ( go_big_quiet_op; first | exact hK | exact ⟨_, fun W => aft_call (about_any _ _ _ _ (by omega) (by omega) (hdl.out i 3) (hdl.out i 1)), hK⟩))
              (refine wpAnyP_take1 (i := 37) hP0 hP1 hP01 hC0 (by decide) rfl (by kernel_rfl) (by kernel_rfl) (by kernel_rfl) (fun _ _ _ _ h => h) (by rfl) ?_; apply Exists.intro; refine ⟨fun w1 h1 K hK => ?_, ?_⟩; · ( go_big_quiet_op; first | exact hK | fail))
              (refine wpAnyP_take0 (i := 38) hP0 hP1 hC0 (by decide) (by rfl) rfl (by kernel_rfl) rfl (by kernel_rfl) (by kernel_rfl) (by kernel_rfl) (fun _ _ _ _ h => h) (by rfl) ?_; apply Exists.intro; refine ⟨fun w1 h1 K hK => ?_, ?_⟩; · ( go_big_quiet_op; first | exact hK | fail))
              (refine wpAnyP_one (i := 39) (by kernel_rfl) rfl (by rfl) (fun wa hwa K hK => ?_))
              have hA1 := hP0 _ _ hC0 hwa
              have hsz := HST.out.1
              have hin := HIN.out
              refine wp_store_at (HF.out.z.below hA1) rfl rfl rfl (by simp; omega) (by kernel_rfl) (by simp [Value.oneCell']) (fun wb zs ho => ?_)
              dsimp only [Act.put]
              refine hK _ _ zs.lt ?_
              clear hK K
              have hT := (HF.out.on hA1).setZ HG4.out ho zs
              clear hC0 zs ho hA1 hwa
              (refine wpAnyP_one (i := 40) (by kernel_rfl) rfl (by rfl) (fun wc1 hwc1 K hK => ?_))
              go_simp
              refine hK _ _ (Nat.lt_of_lt_of_le hT.z.lt hwc1.size) ?_
              clear hK K
              replace hT := hT.on hwc1
              (refine wpAnyP_one (i := 41) (by kernel_rfl) rfl (by rfl) (fun wc2 hwc2 K hK => ?_))
              go_simp
              refine hK _ _ (Nat.lt_of_lt_of_le hT.z.lt hwc2.size) ?_
              clear hK K
              replace hT := hT.on hwc2
              (refine wpAnyP_one (i := 42) (by kernel_rfl) rfl (by rfl) (fun wc3 hwc3 K hK => ?_))
              replace hT := hT.on hwc3
              refine wp_store_at hT.z rfl rfl rfl (by simp only [setA_size]; simp; omega) (by kernel_rfl) (by simp [Value.oneCell']) (fun wd zs ho => ?_)
              dsimp only [Act.put]
              refine hK _ _ zs.lt ?_
              clear hK K
              replace hT := hT.setZ HG4.out ho zs
              clear zs ho
              (refine wpAnyP_one (i := 43) (by kernel_rfl) rfl (by rfl) (fun wc4 hwc4 K hK => ?_))
              go_simp
              refine hK _ _ (Nat.lt_of_lt_of_le hT.z.lt hwc4.size) ?_
              clear hK K
              replace hT := hT.on hwc4
              (refine wpAnyP_one (i := 44) (by kernel_rfl) rfl (by rfl) (fun wc5 hwc5 K hK => ?_))
              go_simp
              refine hK _ _ (Nat.lt_of_lt_of_le hT.z.lt hwc5.size) ?_
              clear hK K
              replace hT := hT.on hwc5
              (refine wpAnyP_one (i := 45) (by kernel_rfl) rfl (by rfl) (fun wc6 hwc6 K hK => ?_))
              replace hT := hT.on hwc6
              refine wp_store_at hT.z rfl rfl rfl (by simp only [setA_size]; simp; omega) (by kernel_rfl) (by simp [Value.oneCell']) (fun we zs ho => ?_)
              dsimp only [Act.put]
              refine hK _ _ zs.lt ?_
              clear hK K
              replace hT := hT.setZ HG4.out ho zs
              clear zs ho
              refine wpAnyP_done (by kernel_rfl) (fun wy hwy => ?_) _
              replace hT := hT.on hwy
              replace HF := Lib.hid hT
              clear hP0 hP1 hP01 hT hwc1 hwc2 hwc3 hwc4 hwc5 hwc6 hwy hsz
              have hR1 := HST.out.two (k0 := 0) (u := .int .i64 (max 0 (t2 i + (G : Int) + (LW : Int) - ((d i 5 % 300 : Nat) : Int)))) (v := .int .i64 (t2 i + (G : Int) + (LW : Int) + ((d i 6 % 300 : Nat) : Int))) (x := ⟨abt (t2 i + (G : Int) + (LW : Int)) (d i 5) (d i 6), ⟨0, 0⟩, ⟨0, 0⟩, ⟨0, 0⟩, prt d i⟩) HIN.out (by omega) (cells_if9 rfl rfl rfl rfl rfl rfl rfl rfl rfl)
              have hR2 := hR1.two (k0 := 2) (u := .int .i64 (max 0 ((G : Int) - ((d i 6 % 300 : Nat) : Int)))) (v := .int .i64 ((G : Int) + ((d i 2 % 300 : Nat) : Int))) (x := ⟨abt (t2 i + (G : Int) + (LW : Int)) (d i 5) (d i 6), abt (G : Int) (d i 6) (d i 2), ⟨0, 0⟩, ⟨0, 0⟩, prt d i⟩) HIN.out (by omega) (cells_if9 rfl rfl rfl rfl rfl rfl rfl rfl rfl)
              have hR3 := hR2.two (k0 := 6) (u := .int .i64 (max 0 ((LW : Int) - ((d i 3 % 300 : Nat) : Int)))) (v := .int .i64 ((LW : Int) + ((d i 1 % 300 : Nat) : Int))) (x := ⟨abt (t2 i + (G : Int) + (LW : Int)) (d i 5) (d i 6), abt (G : Int) (d i 6) (d i 2), ⟨0, 0⟩, abt (LW : Int) (d i 3) (d i 1), prt d i⟩) HIN.out (by omega) (cells_if9 rfl rfl rfl rfl rfl rfl rfl rfl rfl)
              have hR4 := hR3.two (k0 := 4) (u := .int .i64 (-(E1 : Int))) (v := .int .i64 (E2 : Int)) (x := finZ d (t2 i) i) HIN.out (by omega) (by rw [HFZ.out]; exact cells_if9 rfl rfl rfl rfl rfl rfl rfl rfl rfl)
              rw [← HSP.out] at hR4
              have HR3 := Lib.hid (And.intro hR3.1 fun k hk => hR3.2 i HIN.out k hk)
              have HR4 := Lib.hid hR4
              clear hR1 hR2 hR3 hR4 HST
              obtain ⟨cz3, hcz⟩ : ∃ c, c = setA (setA (setA cz (i * 9 + 0) [.int .i64 (max 0 (t2 i + (G : Int) + (LW : Int) - ((d i 5 % 300 : Nat) : Int))), .int .i64 (t2 i + (G : Int) + (LW : Int) + ((d i 6 % 300 : Nat) : Int))]) (i * 9 + 2) [.int .i64 (max 0 ((G : Int) - ((d i 6 % 300 : Nat) : Int))), .int .i64 ((G : Int) + ((d i 2 % 300 : Nat) : Int))]) (i * 9 + 6) [.int .i64 (max 0 ((LW : Int) - ((d i 3 % 300 : Nat) : Int))), .int .i64 ((LW : Int) + ((d i 1 % 300 : Nat) : Int))] := ⟨_, rfl⟩
              replace HF := Lib.hid (show Tb w (some ⟨b, off, none⟩) h cb gB gL gH gZ cl2 ch cz3 wy by rw [hcz]; exact HF.out)
              rw [← hcz] at HR3 HR4
              clear hcz
              go_wp2_with fail
              refine (HDR.out _ _ _ _ _ _ HF.out.a i 4 4 rfl (by omega) (by omega)).mono ?_
              rintro e wx5 ⟨rfl, hb⟩
              replace HF := Lib.hid (HF.out.on hb)
              clear hb
              go_wp2_with fail
              refine (HDR.out _ _ _ _ _ _ HF.out.a i 5 5 rfl (by omega) (by omega)).mono ?_
              rintro e wx6 ⟨rfl, hb⟩
              replace HF := Lib.hid (HF.out.on hb)
              clear hb
              go_wp2_with fail
              refine (lspan_any _ _ _).mono ?_
              rintro e wx7 ⟨rfl, hb⟩
              replace HF := Lib.hid (HF.out.on hb)
              clear hb
              have hixZ : ∀ W : World, (Instr.indexAt 22 (.slice (some ⟨gZ, 0, none⟩) n cZ) (.int .i64 (i : Nat))).run Try.prog W = .ok (.pointer (some ⟨gZ, i * 9, none⟩)) W := fun W => ixZ HIN.out W
              have d0 : wx7.cell? ⟨gZ, i * 9 + 4, none⟩ = some (.int .i64 0) := HF.out.z.cell _ (by have h9 := HR3.out.2 4 (by omega); rw [updZ_self] at h9; exact h9)
              have d1 : wx7.cell? ⟨gZ, i * 9 + 4 + 1, none⟩ = some (.int .i64 0) := HF.out.z.cell _ (by have h9 := HR3.out.2 5 (by omega); rw [updZ_self] at h9; exact h9)
              have d2 := HF.out.z.frozen (i * 9 + 4)
              have d3 := HF.out.z.frozen (i * 9 + 4 + 1)
              have d4 := HF.out.z.lt
              go_wp2_with fail
              clear hixZ d0 d1 d2 d3 d4
              go_roundw
              case rel => exact ⟨i, (i : Int) - 1, t2, cl2, _, by omega, by go_num, rfl, HT, HL, HR4, Lib.hid (HF.out.setZ HG4.out (((Only.refl gZ _).setCell _ _).setCell _ _) ((HF.out.z.set (i * 9 + 4) (.int .i64 (-(E1 : Int)))).set (i * 9 + 4 + 1) (.int .i64 (E2 : Int))))⟩
              case measure => simp [intOf]
end Go.Proofs.Ytipnaeijbbbdoaa
