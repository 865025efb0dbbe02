/- TravelTrue's truth: what it keeps while it draws. -/
import Derived.Test.YtldodmfmibeoiaaDoorT1
import Derived.Test.YtldodmfmibeoiaaDoorP9
namespace Go.Proofs.YtldodmfmibeoiaaDoor
open Go.RowKit
/-- the counter and the round may have changed, and what was made since -/
structure TQ (gZ gR j : Nat) (cs : Array Value) (W0 W : World) : Prop where
  same : Same (fun b => b < W0.heap.size ∧ b ≠ gZ ∧ b ≠ gR) W0 W
  zZ : Box gZ #[.int .i64 (j : Nat)] 3 W
  zR : Box gR cs 24 W
  lz : gZ < W0.heap.size
  lr : gR < W0.heap.size
theorem TQ.on {gZ gR j : Nat} {cs : Array Value} {W0 A B : World} (h : TQ gZ gR j cs W0 A) (hb : Below A.heap.size A B) : TQ gZ gR j cs W0 B :=
  ⟨h.same.trans (Same.of_below hb fun _ hk _ => hk), h.zZ.below hb, h.zR.below hb, h.lz, h.lr⟩
theorem TQ.start {gZ gR j : Nat} {cs : Array Value} {W : World} (hz : Box gZ #[.int .i64 (j : Nat)] 3 W) (hr : Box gR cs 24 W) : TQ gZ gR j cs W W := ⟨Same.refl _ _, hz, hr, hz.lt, hr.lt⟩
theorem TQ.box {gZ gR j g : Nat} {cs ds : Array Value} {t : TypeId} {W0 A : World} (h : TQ gZ gR j cs W0 A) (hb : Box g ds t W0) (h1 : g ≠ gZ) (h2 : g ≠ gR) : Box g ds t A := ⟨(h.same.block g hb.lt ⟨hb.lt, h1, h2⟩).trans hb.row⟩
theorem TQ.low {gZ gR j : Nat} {cs : Array Value} {w W0 A : World} (h : TQ gZ gR j cs W0 A) (hb : Below w.heap.size w W0) (h1 : w.heap.size ≤ gZ) (h2 : w.heap.size ≤ gR) : Below w.heap.size w A :=
  hb.trans (h.same.below hb.size fun k hk => ⟨Nat.lt_of_lt_of_le hk hb.size, by omega, by omega⟩)
theorem TQ.ints {gZ gR j n : Nat} {cs : Array Value} {oa : Option Addr} {f : Nat → Int} {W0 A : World} (h : TQ gZ gR j cs W0 A) (hf : IntsAt W0 oa n f) (hne : ∀ a, oa = some a → a.block ≠ gZ ∧ a.block ≠ gR) : IntsAt A oa n f := fun i hi => by
  obtain ⟨b, off, e, hl, c⟩ := hf i hi
  have hb := hne _ e
  have k := h.same.block b hl ⟨hl, hb.1, hb.2⟩
  exact ⟨b, off, e, Nat.lt_of_lt_of_le hl h.same.size, (World.cell?_of_block (a := ⟨b, off + i, none⟩) k).trans c⟩
theorem TQ.grown {gZ gR j : Nat} {cs : Array Value} {W0 A B : World} {base e size n : Nat} {v : Value} {xs : List Value} (h : TQ gZ gR j cs W0 A) (ho : A.ownsRow base e size v n xs) (hb : W0.heap.size ≤ base) (hg : A.grownBy B v.ownBlock) : TQ gZ gR j cs W0 B := by
  have hrow : ∀ k, v.ownBlock = some k → W0.heap.size ≤ k := fun k e => Nat.le_trans hb (ho.lt k e).1
  refine ⟨h.same.trans (Same.of_grownBy hg fun k e hp => ?_), ⟨(hg.block gZ h.zZ.lt (fun e => ?_)).trans h.zZ.row⟩, ⟨(hg.block gR h.zR.lt (fun e => ?_)).trans h.zR.row⟩, h.lz, h.lr⟩
  · have := hrow k e; omega
  · have := hrow gZ e.symm; have := h.lz; omega
  · have := hrow gR e.symm; have := h.lr; omega
theorem TQ.zed {gZ gR j J : Nat} {cs : Array Value} {W0 A B : World} (h : TQ gZ gR j cs W0 A) (hz : Zed gZ J A B) (hne : gR ≠ gZ) : TQ gZ gR J cs W0 B :=
  ⟨h.same.trans ⟨hz.os, hz.tape, hz.output, hz.size, fun k hk hp => hz.block k hk hp.2.1⟩, hz.box, hz.old h.zR hne, h.lz, h.lr⟩
theorem TQ.only {gZ gR j : Nat} {cs ds : Array Value} {W0 A B : World} (h : TQ gZ gR j cs W0 A) (ho : Only gR A B) (hb : Box gR ds 24 B) (hne : gR ≠ gZ) : TQ gZ gR j ds W0 B :=
  ⟨h.same.trans ⟨ho.os, ho.tape, ho.output, Nat.le_of_eq ho.size.symm, fun k _ hp => ho.block k hp.2.2⟩, ho.box h.zZ (Ne.symm hne), hb, h.lz, h.lr⟩
theorem owns_off {w w' : World} {base e size n g : Nat} {v : Value} {xs : List Value} (h : w.ownsRow base e size v n xs) (k : But g w w') (hg : g < base) : w'.ownsRow base e size v n xs :=
  owns_but h k fun b e9 e8 => by have := (h.lt b e9).1; omega
/-- a number is drawn -/
theorem draw_tq (lo hi : Int) (gZ gR kb j : Nat) (ka : Option Addr) (kn kc : Nat) (q : Nat → Nat) (cs : Array Value) (w W0 A : World) (hT : TQ gZ gR j cs W0 A) (hlow : Below w.heap.size w W0) (hz : w.heap.size ≤ gZ) (hr : w.heap.size ≤ gR) (hK : Box kb #[.slice ka kn kc] 41 W0) (n1 : kb ≠ gZ) (n2 : kb ≠ gR) (n3 : gR ≠ gZ) (hQ : U16sAt w ka kn q) (hqz : ∀ a, ka = some a → a.block < w.heap.size)
    (h : lo ≤ hi) (hb0 : -1000000000000000 ≤ lo) (hb1 : hi ≤ 1000000000000000) (hj : j ≤ 1000000) (hkn : 0 < kn) (hkn2 : kn ≤ 9223372036854775807) :
    Calls Tryd.prog 49 #[.int .i64 lo, .int .i64 hi, .pointer (some ⟨gZ, 0, none⟩), .pointer (some ⟨kb, 0, none⟩)] A fun e w' => (∃ r : Int, e = .returned (.int .i64 r) ∧ lo ≤ r ∧ r ≤ hi) ∧ Zed gZ (j + 1) A w' ∧ TQ gZ gR (j + 1) cs W0 w' := by
  have hl := hT.low hlow hz hr
  refine (draw_any lo hi gZ kb j ka kn kc q A h hb0 hb1 hj hkn hkn2 hT.zZ (hT.box hK n1 n2) n1 (fun i hi => (hQ i hi).imp_right fun ⟨b9, o9, q1, q2, q3⟩ => ⟨b9, o9, q1, Nat.lt_of_lt_of_le q2 hl.size, (hl.cell (p := ⟨b9, o9 + i, none⟩) q2).trans q3⟩) (fun a ha => by have := hqz a ha; omega)).mono ?_
  rintro e w' ⟨h1, h2⟩
  exact ⟨h1, h2, hT.zed h2 n3⟩
theorem Zed.but {zb z : Nat} {w w' : World} (hz : Zed zb z w w') : But zb w w' := ⟨hz.os, hz.tape, hz.output, hz.size, hz.block⟩
theorem intNews_congr {f g : Nat → Int} : ∀ {n}, (∀ i, i < n → f i = g i) → intNews n f = intNews n g
  | 0, _ => rfl
  | n + 1, h => by rw [int_news_succ, int_news_succ, intNews_congr (fun i hi => h i (by omega)), h n (by omega)]
theorem intNews_put (i : Nat) (f : Nat → Int) (v : Int) : intNews i f ++ [.int .i64 v] = intNews (i + 1) (fun c => if c = i then v else f c) := by
  rw [int_news_succ, if_pos rfl, intNews_congr (fun c hc => (if_neg (by omega) : (if c = i then v else f c) = f c).symm)]
theorem trpNews_put (i : Nat) (f : Nat → Trp) (v : Trp) : trpNews i f ++ [.int .i64 v.b, .int .i64 v.m, .int .i64 v.lo, .int .i64 v.hi] = trpNews (i + 1) (fun c => if c = i then v else f c) := by
  rw [trpNews_succ, if_pos rfl, trpNews_congr (fun c hc => (if_neg (by omega) : (if c = i then v else f c) = f c).symm)]
end Go.Proofs.YtldodmfmibeoiaaDoor
