/- TopRing's drawing of numbers: a number below an end, and the counter one further; what is kept while it draws. -/
import Derived.Test.YtlofopnjjeeehaaDoorV11
import Derived.Test.YtlofopnjjeeehaaDoorV9
import Derived.Test.YtlofopnjjeeehaaDoorRange2
namespace Go.Proofs.YtlofopnjjeeehaaDoor
open Go.RowKit
def U16sAt (w : World) (oa : Option Addr) (n : Nat) (q : Nat → Nat) : Prop :=
  ∀ i, i < n → q i < 65536 ∧ ∃ b off, oa = some ⟨b, off, none⟩ ∧ b < w.heap.size ∧ w.cell? ⟨b, off + i, none⟩ = some (.int .u16 (q i : Nat))
/-- the counter's box has been written, and what was made since -/
structure Zed (zb z : Nat) (w w' : World) : Prop where
  os : w'.os = w.os
  tape : w'.tape = w.tape
  output : w'.output = w.output
  size : w.heap.size ≤ w'.heap.size
  block : ∀ k, k < w.heap.size → k ≠ zb → w'.heap[k]? = w.heap[k]?
  box : Box zb #[.int .i64 (z : Nat)] 3 w'
theorem Zed.old {zb z g : Nat} {w w' : World} {cs : Array Value} {t : TypeId} (h : Zed zb z w w') (hb : Box g cs t w) (hne : g ≠ zb) : Box g cs t w' := ⟨(h.block g hb.lt hne).trans hb.row⟩
theorem Zed.below {zb z B : Nat} {w w' : World} (h : Zed zb z w w') (hB : B ≤ zb) (hs : B ≤ w.heap.size) : Below B w w' := ⟨h.os, h.tape, h.output, h.size, fun k hk => h.block k (by omega) (by omega)⟩
theorem u16_wrap (n : Int) : IntKind.u16.wrap n = n % 65536 := by simp [IntKind.wrap, IntKind.bits, IntKind.signed]
theorem pick_in {n : Int} (h : 1 ≤ n ∧ n ≤ 1000) (c : Int) : 0 ≤ (wrap64 (IntKind.u16.wrap c)).tmod n ∧ (wrap64 (IntKind.u16.wrap c)).tmod n < n := by
  have e : wrap64 (IntKind.u16.wrap c) = c % 65536 := by rw [u16_wrap]; unfold wrap64; omega
  rw [e, Int.tmod_eq_emod_of_nonneg (by omega)]
  exact ⟨Int.emod_nonneg _ (by omega), Int.emod_lt_of_pos _ (by omega)⟩
set_option maxRecDepth 100000 in
set_option maxHeartbeats 4000000 in
theorem draw_any (n : Int) (zb kb j : Nat) (ka : Option Addr) (kn kc : Nat) (q : Nat → Nat) (w : World) (h : 1 ≤ n ∧ n ≤ 1000) (hj : j ≤ 1000000) (hkn : 0 < kn) (hkn2 : kn ≤ 9223372036854775807)
    (hZ : Box zb #[.int .i64 (j : Nat)] 3 w) (hK : Box kb #[.slice ka kn kc] 23 w) (hne : kb ≠ zb) (hQ : U16sAt w ka kn q) (hqz : ∀ a, ka = some a → a.block ≠ zb) :
    Calls Tryd.prog 5 #[.int .i64 n, .pointer (some ⟨zb, 0, none⟩), .pointer (some ⟨kb, 0, none⟩)] w fun e w' => (∃ r : Int, e = .returned (.int .i64 r) ∧ 0 ≤ r ∧ r < n) ∧ Zed zb (j + 1) w w' := by
  have HZ := Lib.hid hZ
  have HK := Lib.hid hK
  have HQ := Lib.hid hQ
  have HQZ := Lib.hid hqz
  have zl := hZ.lt
  have z0 := hZ.cell 0 (v := .int .i64 (j : Nat)) rfl
  have z1 := hZ.frozen 0
  clear hZ hK hQ hqz
  go_enter Tryd.func5, Tryd.ntmps5
  go_upto_region 2 with fail
  have KK := HK.out.other (g' := zb) hne 0 (.int .i64 ((j : Int) + 1))
  have KZ := HZ.out.set 0 (.int .i64 ((j : Int) + 1))
  obtain ⟨J, hJ⟩ : ∃ J, J = j + 1 := ⟨_, rfl⟩
  have KZ2 : Box zb #[.int .i64 (J : Nat)] 3 (w.setCell ⟨zb, 0, none⟩ (.int .i64 ((j : Int) + 1))) := by
    rw [show ((J : Nat) : Int) = (j : Int) + 1 by omega]; exact KZ
  have ho := (Only.refl zb w).setCell 0 (.int .i64 ((j : Int) + 1))
  have HO := Lib.hid (show Zed zb J w (w.setCell ⟨zb, 0, none⟩ (.int .i64 ((j : Int) + 1))) from
    ⟨ho.os, ho.tape, ho.output, Nat.le_of_eq ho.size.symm, fun k _ hk2 => ho.block k hk2, KZ2⟩)
  obtain ⟨i, hi9⟩ : ∃ i, i = J % kn := ⟨_, rfl⟩
  have hik : i < kn := by rw [hi9]; exact Nat.mod_lt _ hkn
  have hmk : (J : Int) % (kn : Int) = (i : Int) := by rw [hi9]; simp
  have hmk2 : (J : Int).tmod (kn : Int) = (i : Int) := by rw [Int.tmod_eq_emod_of_nonneg (by omega)]; exact hmk
  have HJ := Lib.hid hJ
  obtain ⟨hq9, qb, qo, rfl, hlt1, u0⟩ := HQ.out i hik
  have hqz9 := HQZ.out _ rfl
  have u1 : (w.setCell ⟨zb, 0, none⟩ (.int .i64 ((j : Int) + 1))).cell? ⟨qb, qo + i, none⟩ = some (.int .u16 (q i : Nat)) :=
    (World.cell?_of_block (w := w) (HO.out.block qb hlt1 hqz9)).trans u0
  have hql : qb < (w.setCell ⟨zb, 0, none⟩ (.int .i64 ((j : Int) + 1))).heap.size := by rw [ho.size]; exact hlt1
  obtain ⟨W0, hW⟩ : ∃ X, X = w.setCell ⟨zb, 0, none⟩ (.int .i64 ((j : Int) + 1)) := ⟨_, rfl⟩
  rw [← hW] at KK KZ2 HO u1 hql ⊢
  clear hW hi9 KZ z0 z1 u0 ho
  have f0 : ∀ W : Aft W0, W.val.cell? ⟨kb, 0, none⟩ = some (.slice (some ⟨qb, qo, none⟩) kn kc) := fun W => (KK.below W.below).cell 0 rfl
  have f1 : ∀ W : Aft W0, W.val.cell? ⟨zb, 0, none⟩ = some (.int .i64 (J : Nat)) := fun W => (KZ2.below W.below).cell 0 rfl
  have f2 : ∀ W : Aft W0, W.val.cell? ⟨qb, qo + i, none⟩ = some (.int .u16 (q i : Nat)) := fun W => (W.below.cell (p := ⟨qb, qo + i, none⟩) hql).trans u1
  have HZ2 := Lib.hid KZ2
  clear KK KZ2 u1 hql
  have hd0 : ((kn : Nat) : Int) ≠ 0 := by omega
  have hx0 : (0 : Int) ≤ (i : Int) := by omega
  have hx1 : (i : Int) < (kn : Int) := by omega
  have hm0 : n ≠ 0 := by omega
  have hJ2 : J ≤ 1000001 := by omega
  clear hJ
  refine wp_region_aft (by kernel_rfl) (by kernel_rfl) ?_
  repeat (go_big_quiet_step (fail))
  refine wpQuiet_nil ?_
  intro WA
  obtain ⟨wy, hwy⟩ : ∃ X, X = WA.val := ⟨_, rfl⟩
  have hby := WA.below
  rw [← hwy] at hby ⊢
  clear hwy WA
  go_wp2_with fail
  go_ret
  exact ⟨⟨_, rfl, pick_in h _⟩, hby.os.trans HO.out.os, hby.tape.trans HO.out.tape, hby.output.trans HO.out.output, Nat.le_trans HO.out.size hby.size, fun k hk hk2 => (hby.block k (Nat.lt_of_lt_of_le hk HO.out.size)).trans (HO.out.block k hk hk2), by rw [← HJ.out]; exact HZ2.out.below hby⟩
def trpNews (n : Nat) (f : Nat → Trp) : List Value := (List.range n).flatMap fun i => [.int .i64 (f i).b, .int .i64 (f i).m, .int .i64 (f i).lo, .int .i64 (f i).hi]
theorem trpNews_succ (n : Nat) (f : Nat → Trp) : trpNews (n + 1) f = trpNews n f ++ [.int .i64 (f n).b, .int .i64 (f n).m, .int .i64 (f n).lo, .int .i64 (f n).hi] := by simp [trpNews, List.range_succ, List.flatMap_append]
theorem trpNews_length (n : Nat) (f : Nat → Trp) : (trpNews n f).length = n * 4 := by
  induction n with
  | zero => rfl
  | succ n ih => rw [trpNews_succ, List.length_append, ih]; simp; omega
theorem trpNews_get {n : Nat} {f : Nat → Trp} {i : Nat} (hi : i < n) : (trpNews n f)[i * 4]? = some (.int .i64 (f i).b) ∧ (trpNews n f)[i * 4 + 1]? = some (.int .i64 (f i).m) ∧ (trpNews n f)[i * 4 + 1 + 1]? = some (.int .i64 (f i).lo) ∧ (trpNews n f)[i * 4 + 1 + 1 + 1]? = some (.int .i64 (f i).hi) := by
  induction n with
  | zero => omega
  | succ n ih =>
    rw [trpNews_succ]
    have hl := trpNews_length n f
    by_cases h : i = n
    · subst h
      rw [List.getElem?_append_right (by omega), List.getElem?_append_right (by omega), List.getElem?_append_right (by omega), List.getElem?_append_right (by omega), hl]
      simp [show i * 4 + 1 + 1 - i * 4 = 2 by omega, show i * 4 + 1 + 1 + 1 - i * 4 = 3 by omega]
    · obtain ⟨h0, h1, h2, h3⟩ := ih (by omega)
      rw [List.getElem?_append_left (by omega), List.getElem?_append_left (by omega), List.getElem?_append_left (by omega), List.getElem?_append_left (by omega)]
      exact ⟨h0, h1, h2, h3⟩
theorem owns_trps {w : World} {base e n : Nat} {v : Value} {f : Nat → Trp} (h : w.ownsRow base e 4 v n (trpNews n f)) : ∃ oa cap, v = .slice oa n cap ∧ TrpsAt w oa n f := by
  obtain ⟨oa, cap, rfl, hx⟩ := owns_form h
  refine ⟨oa, cap, rfl, fun i hi => ?_⟩
  obtain ⟨h0, h1, h2, h3⟩ := trpNews_get (f := f) hi
  obtain ⟨k, e0, hk, g0⟩ := hx _ _ h0
  obtain ⟨k1, e1, -, g1⟩ := hx _ _ h1
  obtain ⟨k2, e2, -, g2⟩ := hx _ _ h2
  obtain ⟨k3, e3, -, g3⟩ := hx _ _ h3
  subst e0
  cases e1
  cases e2
  cases e3
  exact ⟨k, 0, rfl, hk, by rw [Nat.zero_add]; exact g0, by rw [Nat.zero_add]; exact g1, by rw [Nat.zero_add]; exact g2, by rw [Nat.zero_add]; exact g3⟩
theorem trpNews_congr {f g : Nat → Trp} : ∀ {n}, (∀ i, i < n → f i = g i) → trpNews n f = trpNews n g
  | 0, _ => rfl
  | n + 1, h => by rw [trpNews_succ, trpNews_succ, trpNews_congr (fun i hi => h i (by omega)), h n (by omega)]
/-- the counter and the round may have changed, and what was made since -/
structure TQ (gZ gR j : Nat) (cs : Array Value) (W0 W : World) : Prop where
  same : Same (fun b => b < W0.heap.size ∧ b ≠ gZ ∧ b ≠ gR) W0 W
  zZ : Box gZ #[.int .i64 (j : Nat)] 3 W
  zR : Box gR cs 29 W
  lz : gZ < W0.heap.size
  lr : gR < W0.heap.size
theorem TQ.on {gZ gR j : Nat} {cs : Array Value} {W0 A B : World} (h : TQ gZ gR j cs W0 A) (hb : Below A.heap.size A B) : TQ gZ gR j cs W0 B :=
  ⟨h.same.trans (Same.of_below hb fun _ hk _ => hk), h.zZ.below hb, h.zR.below hb, h.lz, h.lr⟩
theorem TQ.start {gZ gR j : Nat} {cs : Array Value} {W : World} (hz : Box gZ #[.int .i64 (j : Nat)] 3 W) (hr : Box gR cs 29 W) : TQ gZ gR j cs W W := ⟨Same.refl _ _, hz, hr, hz.lt, hr.lt⟩
theorem TQ.box {gZ gR j g : Nat} {cs ds : Array Value} {t : TypeId} {W0 A : World} (h : TQ gZ gR j cs W0 A) (hb : Box g ds t W0) (h1 : g ≠ gZ) (h2 : g ≠ gR) : Box g ds t A := ⟨(h.same.block g hb.lt ⟨hb.lt, h1, h2⟩).trans hb.row⟩
theorem TQ.low {gZ gR j : Nat} {cs : Array Value} {w W0 A : World} (h : TQ gZ gR j cs W0 A) (hb : Below w.heap.size w W0) (h1 : w.heap.size ≤ gZ) (h2 : w.heap.size ≤ gR) : Below w.heap.size w A :=
  hb.trans (h.same.below hb.size fun k hk => ⟨Nat.lt_of_lt_of_le hk hb.size, by omega, by omega⟩)
theorem TQ.ints {gZ gR j n : Nat} {cs : Array Value} {oa : Option Addr} {f : Nat → Int} {W0 A : World} (h : TQ gZ gR j cs W0 A) (hf : IntsAt W0 oa n f) (hne : ∀ a, oa = some a → a.block ≠ gZ ∧ a.block ≠ gR) : IntsAt A oa n f := fun i hi => by
  obtain ⟨b, off, e, hl, c⟩ := hf i hi
  have hb := hne _ e
  have k := h.same.block b hl ⟨hl, hb.1, hb.2⟩
  exact ⟨b, off, e, Nat.lt_of_lt_of_le hl h.same.size, (World.cell?_of_block (a := ⟨b, off + i, none⟩) k).trans c⟩
theorem TQ.grown {gZ gR j : Nat} {cs : Array Value} {W0 A B : World} {base e size n : Nat} {v : Value} {xs : List Value} (h : TQ gZ gR j cs W0 A) (ho : A.ownsRow base e size v n xs) (hb : W0.heap.size ≤ base) (hg : A.grownBy B v.ownBlock) : TQ gZ gR j cs W0 B := by
  have hrow : ∀ k, v.ownBlock = some k → W0.heap.size ≤ k := fun k e => Nat.le_trans hb (ho.lt k e).1
  refine ⟨h.same.trans (Same.of_grownBy hg fun k e hp => ?_), ⟨(hg.block gZ h.zZ.lt (fun e => ?_)).trans h.zZ.row⟩, ⟨(hg.block gR h.zR.lt (fun e => ?_)).trans h.zR.row⟩, h.lz, h.lr⟩
  · have := hrow k e; omega
  · have := hrow gZ e.symm; have := h.lz; omega
  · have := hrow gR e.symm; have := h.lr; omega
theorem TQ.zed {gZ gR j J : Nat} {cs : Array Value} {W0 A B : World} (h : TQ gZ gR j cs W0 A) (hz : Zed gZ J A B) (hne : gR ≠ gZ) : TQ gZ gR J cs W0 B :=
  ⟨h.same.trans ⟨hz.os, hz.tape, hz.output, hz.size, fun k hk hp => hz.block k hk hp.2.1⟩, hz.box, hz.old h.zR hne, h.lz, h.lr⟩
theorem TQ.only {gZ gR j : Nat} {cs ds : Array Value} {W0 A B : World} (h : TQ gZ gR j cs W0 A) (ho : Only gR A B) (hb : Box gR ds 29 B) (hne : gR ≠ gZ) : TQ gZ gR j ds W0 B :=
  ⟨h.same.trans ⟨ho.os, ho.tape, ho.output, Nat.le_of_eq ho.size.symm, fun k _ hp => ho.block k hp.2.2⟩, ho.box h.zZ (Ne.symm hne), hb, h.lz, h.lr⟩
theorem owns_off {w w' : World} {base e size n g : Nat} {v : Value} {xs : List Value} (h : w.ownsRow base e size v n xs) (k : But g w w') (hg : g < base) : w'.ownsRow base e size v n xs :=
  owns_but h k fun b e9 e8 => by have := (h.lt b e9).1; omega
theorem Zed.but {zb z : Nat} {w w' : World} (hz : Zed zb z w w') : But zb w w' := ⟨hz.os, hz.tape, hz.output, hz.size, hz.block⟩
theorem intNews_congr {f g : Nat → Int} : ∀ {n}, (∀ i, i < n → f i = g i) → intNews n f = intNews n g
  | 0, _ => rfl
  | n + 1, h => by rw [int_news_succ, int_news_succ, intNews_congr (fun i hi => h i (by omega)), h n (by omega)]
theorem intNews_put (i : Nat) (f : Nat → Int) (v : Int) : intNews i f ++ [.int .i64 v] = intNews (i + 1) (fun c => if c = i then v else f c) := by
  rw [int_news_succ, if_pos rfl, intNews_congr (fun c hc => (if_neg (by omega) : (if c = i then v else f c) = f c).symm)]
theorem trpNews_put (i : Nat) (f : Nat → Trp) (v : Trp) : trpNews i f ++ [.int .i64 v.b, .int .i64 v.m, .int .i64 v.lo, .int .i64 v.hi] = trpNews (i + 1) (fun c => if c = i then v else f c) := by
  rw [trpNews_succ, if_pos rfl, trpNews_congr (fun c hc => (if_neg (by omega) : (if c = i then v else f c) = f c).symm)]
/-- a number is drawn -/
theorem draw_tq (n : Int) (gZ gR kb j : Nat) (ka : Option Addr) (kn kc : Nat) (q : Nat → Nat) (cs : Array Value) (w W0 A : World) (hT : TQ gZ gR j cs W0 A) (hlow : Below w.heap.size w W0) (hz : w.heap.size ≤ gZ) (hr : w.heap.size ≤ gR) (hK : Box kb #[.slice ka kn kc] 23 W0) (n1 : kb ≠ gZ) (n2 : kb ≠ gR) (n3 : gR ≠ gZ) (hQ : U16sAt w ka kn q) (hqz : ∀ a, ka = some a → a.block < w.heap.size)
    (h : 1 ≤ n ∧ n ≤ 1000) (hj : j ≤ 1000000) (hkn : 0 < kn) (hkn2 : kn ≤ 9223372036854775807) :
    Calls Tryd.prog 5 #[.int .i64 n, .pointer (some ⟨gZ, 0, none⟩), .pointer (some ⟨kb, 0, none⟩)] A fun e w' => (∃ r : Int, e = .returned (.int .i64 r) ∧ 0 ≤ r ∧ r < n) ∧ Zed gZ (j + 1) A w' ∧ TQ gZ gR (j + 1) cs W0 w' := by
  have hl := hT.low hlow hz hr
  refine (draw_any n gZ kb j ka kn kc q A h hj hkn hkn2 hT.zZ (hT.box hK n1 n2) n1 (fun i hi => (hQ i hi).imp_right fun ⟨b9, o9, q1, q2, q3⟩ => ⟨b9, o9, q1, Nat.lt_of_lt_of_le q2 hl.size, (hl.cell (p := ⟨b9, o9 + i, none⟩) q2).trans q3⟩) (fun a ha => by have := hqz a ha; omega)).mono ?_
  rintro e w' ⟨h1, h2⟩
  exact ⟨h1, h2, hT.zed h2 n3⟩
end Go.Proofs.YtlofopnjjeeehaaDoor
