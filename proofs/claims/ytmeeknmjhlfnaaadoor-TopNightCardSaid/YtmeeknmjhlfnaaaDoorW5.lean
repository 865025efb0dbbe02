/- newTest: a test with what each of its steps leaves to the leaks. -/
import Derived.Test.YtmeeknmjhlfnaaaDoorW4
import Derived.Test.YtmeeknmjhlfnaaaDoorBase2
namespace Go.Proofs.YtmeeknmjhlfnaaaDoor
open Go.RowKit
theorem ofInt_i64 (a : Nat) (ha : a < 9223372036854775808) : (BitVec.ofInt 64 (a : Int)).toNat = a := by
  rw [BitVec.ofInt_natCast, BitVec.toNat_ofNat]; exact Nat.mod_eq_of_lt (by omega)
theorem i64_and_nat (a b : Nat) (ha : a < 9223372036854775808) (hb : b < 9223372036854775808) : bits .and .i64 (a : Int) (b : Int) = ((a &&& b : Nat) : Int) := by
  have hx : a &&& b < 2 ^ 63 := Nat.and_lt_two_pow _ (by omega)
  show IntKind.i64.wrap ((BitVec.ofInt 64 (a : Int) &&& BitVec.ofInt 64 (b : Int)).toNat : Int) = _
  rw [BitVec.toNat_and, ofInt_i64 a ha, ofInt_i64 b hb, IntKind.wrap_i64]
  omega
theorem shr_nat (x i : Nat) : (x : Int) / (2 : Int) ^ i = ((x / 2 ^ i : Nat) : Int) := by
  rw [Int.natCast_ediv]
  congr 1
/-- one bit of a set -/
theorem bit_mod {s : Int} {i : Nat} (h0 : 0 ≤ s) (h1 : s.toNat < 1024) : bits BinOp.and IntKind.i64 (s / 2 ^ i) 1 = ((s.toNat / 2 ^ i % 2 : Nat) : Int) := by
  obtain ⟨x, rfl⟩ : ∃ x : Nat, s = x := ⟨s.toNat, by omega⟩
  rw [shr_nat]
  have hb := Nat.div_le_self x (2 ^ i)
  have := i64_and_nat (x / 2 ^ i) 1 (by simp at h1; omega) (by omega)
  rw [Nat.and_one_is_mod] at this
  exact this
theorem bit_zero {s : Int} {i : Nat} (h0 : 0 ≤ s) (h1 : s.toNat < 1024) : (bits BinOp.and IntKind.i64 (s / 2 ^ i) 1 == 0) = !hasB s.toNat i := by
  rw [bit_mod h0 h1]
  have : s.toNat / 2 ^ i % 2 = 0 ∨ s.toNat / 2 ^ i % 2 = 1 := by omega
  rcases this with h | h <;> simp [hasB, h]
theorem bit_one {s : Int} {i : Nat} (h0 : 0 ≤ s) (h1 : s.toNat < 1024) : (bits BinOp.and IntKind.i64 (s / 2 ^ i) 1 == 1) = hasB s.toNat i := by
  rw [bit_mod h0 h1]
  have : s.toNat / 2 ^ i % 2 = 0 ∨ s.toNat / 2 ^ i % 2 = 1 := by omega
  rcases this with h | h <;> simp [hasB, h]
theorem pow_ten {n : Nat} (h : n ≤ 10) : 2 ^ n ≤ 1024 := Nat.pow_le_pow_right (show 0 < 2 by omega) h
/-- what is left of a flow, behind the uses of the first k streets that are not shut -/
def leftK (u : Nat → Spn) (f : Spn) (x : Nat) : Nat → Spn
  | 0 => f
  | k + 1 => if hasB x k then leftK u f x k else ⟨(leftK u f x k).lo - (u k).hi, (leftK u f x k).hi - (u k).lo⟩
def Tst.rest (t : Tst) (i : Nat) : Stp := ⟨(t.s i).shut, leftK t.u (t.s i).flow (t.s i).shut.toNat t.n⟩
theorem leftK_bd {u : Nat → Spn} {f : Spn} {x n : Nat} (hf : litB f = true) (hu : ∀ i, i < n → litB (u i) = true) : ∀ {k}, k ≤ n → -(1073741824 * (k : Int)) ≤ (leftK u f x k).lo ∧ (leftK u f x k).lo ≤ 1073741824 ∧ -(1073741824 * (k : Int)) ≤ (leftK u f x k).hi ∧ (leftK u f x k).hi ≤ 1073741824
  | 0, _ => by
    simp only [litB, spanB, decide_eq_true_eq] at hf
    simp only [leftK]; omega
  | k + 1, h => by
    have ih := leftK_bd (x := x) hf hu (k := k) (by omega)
    have h2 := hu k (by omega)
    simp only [litB, spanB, decide_eq_true_eq] at h2
    unfold leftK
    split
    · omega
    · dsimp only; omega
/-- what is so of a valid test -/
structure Tst.Ok (t : Tst) : Prop where
  n1 : 1 ≤ t.n
  n2 : t.n ≤ 10
  l0 : 0 ≤ t.leaks
  l1 : t.leaks ≤ 2
  e0 : 1 ≤ t.least
  e1 : t.least ≤ 1073741824
  m1 : t.m ≤ 12
  u : ∀ i, i < t.n → litB (t.u i) = true
  s0 : ∀ i, i < t.m → 0 ≤ (t.s i).shut
  s1 : ∀ i, i < t.m → (t.s i).shut.toNat < 2 ^ t.n
  f : ∀ i, i < t.m → litB (t.s i).flow = true
theorem Tst.ok {t : Tst} (h : t.valid = true) : t.Ok := by
  simp only [Tst.valid, Tst.head, Bool.and_eq_true, withinB, decide_eq_true_eq, Bool.not_eq_true'] at h
  obtain ⟨⟨h1, h2, h3, h4⟩, h5, h6⟩ := h
  have hu : ∀ i, i < t.n → litB (t.u i) = true := fun i hi => by
    cases h9 : litB (t.u i)
    · have : anyB t.n (fun i => badU (t.u i)) = true := anyB_iff.2 ⟨i, hi, by simp [badU, h9]⟩
      rw [this] at h5; cases h5
    · rfl
  have hs : ∀ i, i < t.m → withinB (t.s i).shut 0 (top t.n) = true ∧ litB (t.s i).flow = true := fun i hi => by
    cases h9 : badS (top t.n) (t.s i)
    · simpa [badS] using h9
    · have : anyB t.m (fun i => badS (top t.n) (t.s i)) = true := anyB_iff.2 ⟨i, hi, h9⟩
      rw [this] at h6; cases h6
  refine ⟨by omega, by omega, by omega, by omega, by omega, by omega, by omega, hu, fun i hi => ?_, fun i hi => ?_, fun i hi => (hs i hi).2⟩
  · have h9 : 0 ≤ (t.s i).shut ∧ (t.s i).shut ≤ ((2 ^ t.n : Nat) : Int) - 1 := of_decide_eq_true (hs i hi).1
    exact h9.1
  · have h9 : 0 ≤ (t.s i).shut ∧ (t.s i).shut ≤ ((2 ^ t.n : Nat) : Int) - 1 := of_decide_eq_true (hs i hi).1
    generalize (2 ^ t.n : Nat) = p at *
    omega
/-- the cells of steps -/
def stpNews (n : Nat) (f : Nat → Stp) : List Value := (List.range n).flatMap fun i => [.int .i64 (f i).shut, .int .i64 (f i).flow.lo, .int .i64 (f i).flow.hi]
theorem stpNews_succ (n : Nat) (f : Nat → Stp) : stpNews (n + 1) f = stpNews n f ++ [.int .i64 (f n).shut, .int .i64 (f n).flow.lo, .int .i64 (f n).flow.hi] := by simp [stpNews, List.range_succ, List.flatMap_append]
theorem stpNews_length (n : Nat) (f : Nat → Stp) : (stpNews n f).length = n * 3 := by
  induction n with
  | zero => rfl
  | succ n ih => rw [stpNews_succ, List.length_append, ih]; simp; omega
theorem stpNews_get {n : Nat} {f : Nat → Stp} {i : Nat} (hi : i < n) : (stpNews n f)[i * 3]? = some (.int .i64 (f i).shut) ∧ (stpNews n f)[i * 3 + 1]? = some (.int .i64 (f i).flow.lo) ∧ (stpNews n f)[i * 3 + 1 + 1]? = some (.int .i64 (f i).flow.hi) := by
  induction n with
  | zero => omega
  | succ n ih =>
    rw [stpNews_succ]
    have hl := stpNews_length n f
    by_cases h : i = n
    · subst h
      rw [List.getElem?_append_right (by omega), List.getElem?_append_right (by omega), List.getElem?_append_right (by omega), hl]
      simp [show i * 3 + 1 + 1 - i * 3 = 2 by omega]
    · obtain ⟨h0, h1, h2⟩ := ih (by omega)
      rw [List.getElem?_append_left (by omega), List.getElem?_append_left (by omega), List.getElem?_append_left (by omega)]
      exact ⟨h0, h1, h2⟩
theorem owns_stps {w : World} {base e n : Nat} {v : Value} {f : Nat → Stp} (h : w.ownsRow base e 3 v n (stpNews n f)) : ∃ oa cap, v = .slice oa n cap ∧ StpsAt w oa n f := by
  obtain ⟨oa, cap, rfl, hx⟩ := owns_form h
  refine ⟨oa, cap, rfl, fun i hi => ?_⟩
  obtain ⟨h0, h1, h2⟩ := stpNews_get (f := f) hi
  obtain ⟨k, e0, hk, g0⟩ := hx _ _ h0
  obtain ⟨k1, e1, -, g1⟩ := hx _ _ h1
  obtain ⟨k2, e2, -, g2⟩ := hx _ _ h2
  subst e0
  cases e1
  cases e2
  exact ⟨k, 0, rfl, hk, by rw [Nat.zero_add]; exact g0, by rw [Nat.zero_add]; exact g1, by rw [Nat.zero_add]; exact g2⟩
/-- the worlds of a round of newTest -/
structure RC (B G q : Nat) (w : World) (t : Tst) (oa : Option Addr) (ca : Nat) (ob : Option Addr) (cb k : Nat) (A : World) : Prop where
  low : Below w.heap.size w A
  T : TB t oa ca ob cb B A
  zG : ∃ v, Box G #[.slice oa t.n ca, .int .i64 t.leaks, .int .i64 t.least, .slice ob t.m cb, v] 73 A
  z5 : Box q #[.int .i64 (t.s k).shut, .int .i64 (t.s k).flow.lo, .int .i64 (t.s k).flow.hi] 36 A
  z6 : Box (q + 1) #[.int .i64 (t.rest k).flow.lo, .int .i64 (t.rest k).flow.hi] 34 A
theorem RC.on {B G q : Nat} {w : World} {t : Tst} {oa : Option Addr} {ca : Nat} {ob : Option Addr} {cb k : Nat} {A A' : World} (h : RC B G q w t oa ca ob cb k A) (hb : Below A.heap.size A A') : RC B G q w t oa ca ob cb k A' :=
  ⟨h.low.trans (hb.mono h.low.size), h.T.below hb, h.zG.imp fun _ z => z.below hb, h.z5.below hb, h.z6.below hb⟩
set_option maxRecDepth 100000 in
set_option maxHeartbeats 16000000 in
theorem newTest_any (t : Tst) (oa : Option Addr) (ca : Nat) (ob : Option Addr) (cb : Nat) (w : World) (hn : t.n ≤ 1000000) (hm : t.m ≤ 1000000) (hU : SpnsAt w oa t.n t.u) (hS : StpsAt w ob t.m t.s) :
    Calls Tryd.prog 20 #[t.val oa ca ob cb] w fun e w' => ((t.valid = false ∧ e = .returned (.pointer none)) ∨ (t.valid = true ∧ ∃ g or cr, e = .returned (.pointer (some ⟨g, 0, none⟩)) ∧ Box g #[.slice oa t.n ca, .int .i64 t.leaks, .int .i64 t.least, .slice ob t.m cb, .slice or t.m cr] 73 w' ∧ StpsAt w' or t.m t.rest)) ∧ Below w.heap.size w w' := by
  have HU := Lib.hid hU
  have HS := Lib.hid hS
  clear hU hS
  obtain ⟨iR, hiR, hzR0, hzR1, hzR2⟩ := info_parts (P := Tryd.prog) (e := 75) (z := .agg #[.int .i64 0, .int .i64 0, .int .i64 0]) (size := 3) (bytes := 24) (by kernel_rfl)
  go_enter Tryd.func20, Tryd.ntmps20
  go_wp2_with fail
  have hT : TB t oa ca ob cb w.heap.size (w.alloc (.cells #[.slice oa t.n ca, .int .i64 t.leaks, .int .i64 t.least, .slice ob t.m cb] 25)) := Box.new _ 25 w rfl
  have hb0 : Below w.heap.size w (w.alloc (.cells #[.slice oa t.n ca, .int .i64 t.leaks, .int .i64 t.least, .slice ob t.m cb] 25)) := below_alloc1 w _
  obtain ⟨W, hW⟩ : ∃ X, X = w.alloc (.cells #[.slice oa t.n ca, .int .i64 t.leaks, .int .i64 t.least, .slice ob t.m cb] 25) := ⟨_, rfl⟩
  rw [← hW] at hT hb0 ⊢
  clear hW
  refine (isTest_any t oa ca ob cb _ hn hm (HU.out.mono hb0) (HS.out.mono hb0)).mono ?_
  rintro e w1 ⟨rfl, hb1⟩
  have hb2 := hb0.trans (hb1.mono hb0.size)
  have hT2 := hT.below hb1
  clear hT hb0 hb1
  rcases hv : t.valid
  case false =>
    have HV := Lib.hid hv
    clear hv
    go_wp2
    go_ret
    exact ⟨.inl ⟨HV.out, rfl⟩, hb2⟩
  have HV := Lib.hid hv
  have HK := Lib.hid (Tst.ok hv)
  have hn1 := HK.out.n1
  have hn2 := HK.out.n2
  have hm2 := HK.out.m1
  clear hv
  obtain ⟨b0, b1, b2, b3, b4⟩ := TB.cells hT2
  go_upto_region 5 with fail
  have hG := Box.new (g := w1.heap.size) #[.slice oa t.n ca, .int .i64 t.leaks, .int .i64 t.least, .slice ob t.m cb, .slice none 0 0] 73 w1 rfl
  have hT3 := hT2.old (.cells #[.slice oa t.n ca, .int .i64 t.leaks, .int .i64 t.least, .slice ob t.m cb, .slice none 0 0] 73)
  have hb3 := hb2.alloc hb2.size (.cells #[.slice oa t.n ca, .int .i64 t.leaks, .int .i64 t.least, .slice ob t.m cb, .slice none 0 0] 73)
  have hG0 : w.heap.size ≤ w1.heap.size := hb2.size
  have hG1 : w.heap.size ≠ w1.heap.size := by omega
  obtain ⟨W2, hW⟩ : ∃ X, X = w1.alloc (.cells #[.slice oa t.n ca, .int .i64 t.leaks, .int .i64 t.least, .slice ob t.m cb, .slice none 0 0] 73) := ⟨_, rfl⟩
  obtain ⟨G, hG9⟩ : ∃ G, G = w1.heap.size := ⟨_, rfl⟩
  rw [← hG9] at hG hG0 hG1 ⊢
  rw [← hW] at hG hT3 hb3 ⊢
  clear hW hG9 hT2 hb2 b0 b1 b2 b3 b4
  have HT3 := Lib.hid hT3
  have HG := Lib.hid hG
  clear hT3 hG
  go_wp2_with fail
  go_loopw [18] (fun v18 wr => ∃ k : Nat, k ≤ t.m ∧ v18 = .int .i64 k ∧ ∃ v, Box G #[.slice oa t.n ca, .int .i64 t.leaks, .int .i64 t.least, .slice ob t.m cb, v] 73 wr ∧ wr.ownsRow w.heap.size 75 3 v k (stpNews k t.rest) ∧ Below w.heap.size w wr ∧ TB t oa ca ob cb w.heap.size wr) (fun i _ => t.m - (intOf i).toNat)
  case atStart => exact ⟨0, Nat.zero_le _, rfl, _, HG.out, owns_none, hb3, HT3.out⟩
  case round =>
    obtain ⟨k, hk, rfl, v, hG, hown, hb, hT⟩ := hrel
    have HG := Lib.hid hG
    have HO := Lib.hid hown
    have HT := Lib.hid hT
    have g1 := hG.lt
    clear hG hown hT
    by_cases hlt : k < t.m
    · have hd1 : decide (k < t.m) = true := by simpa using hlt
      have hk0 : (0 : Int) ≤ (k : Int) := by omega
      have hk1 : (k : Int) < (t.m : Int) := by omega
      obtain ⟨bs, os, rfl, ls, s0, s1, s2⟩ := (HS.out.mono hb) k hlt
      obtain ⟨b0, b1, b2, b3, b4⟩ := TB.cells HT.out
      go_wp2_with fail
      have hbE : Below wr.heap.size wr ((wr.alloc (.cells #[.int .i64 (t.s k).shut, .int .i64 (t.s k).flow.lo, .int .i64 (t.s k).flow.hi] 36)).alloc (.cells #[.int .i64 (t.s k).flow.lo, .int .i64 (t.s k).flow.hi] 34)) := (by repeat' (first | exact Below.refl _ _ | assumption | apply below_drewN | apply Below.drew | (refine Below.alloc ?_ ?_ _) | (refine Below.setCell ?_ ?_ _) | (simp; done) | (simp; omega) | omega))
      have z5 := (Box.new (g := wr.heap.size) #[.int .i64 (t.s k).shut, .int .i64 (t.s k).flow.lo, .int .i64 (t.s k).flow.hi] 36 wr rfl).old (.cells #[.int .i64 (t.s k).flow.lo, .int .i64 (t.s k).flow.hi] 34)
      have z6 := Box.new (g := wr.heap.size + 1) #[.int .i64 (t.s k).flow.lo, .int .i64 (t.s k).flow.hi] 34 (wr.alloc (.cells #[.int .i64 (t.s k).shut, .int .i64 (t.s k).flow.lo, .int .i64 (t.s k).flow.hi] 36)) (by simp)
      obtain ⟨W3, hW⟩ : ∃ X, X = (wr.alloc (.cells #[.int .i64 (t.s k).shut, .int .i64 (t.s k).flow.lo, .int .i64 (t.s k).flow.hi] 36)).alloc (.cells #[.int .i64 (t.s k).flow.lo, .int .i64 (t.s k).flow.hi] 34) := ⟨_, rfl⟩
      rw [← hW] at hbE z5 z6 ⊢
      clear hW b0 b1 b2 b3 b4 s0 s1 s2 ls
      have g5 : G < wr.heap.size := g1
      have g6 : w.heap.size < wr.heap.size := by have := HT.out.lt; exact this
      obtain ⟨q, hq⟩ : ∃ q, q = wr.heap.size := ⟨_, rfl⟩
      rw [← hq] at z5 z6 g5 g6 ⊢
      have HG3 := Lib.hid (HG.out.below hbE)
      have HO3 := Lib.hid (owns_below HO.out hbE)
      have HT3 := Lib.hid (HT.out.below hbE)
      have HB3 := Lib.hid (hb.trans (hbE.mono hb.size))
      have Z5 := Lib.hid z5
      have Z6 := Lib.hid z6
      have q1 := z6.lt
      clear HG HO HT hb hbE hq z5 z6 g1
      go_loopw [27] (fun v27 wr => ∃ i : Nat, i ≤ t.n ∧ v27 = .int .i64 i ∧ Box (q + 1) #[.int .i64 (leftK t.u (t.s k).flow (t.s k).shut.toNat i).lo, .int .i64 (leftK t.u (t.s k).flow (t.s k).shut.toNat i).hi] 34 wr ∧ But (q + 1) W3 wr) (fun i _ => t.n - (intOf i).toNat)
      case atStart => exact ⟨0, Nat.zero_le _, rfl, Z6.out, But.refl _ _⟩
      case round =>
        obtain ⟨i, hi, rfl, hz6, hbut⟩ := hrel
        have hsz := hbut.size
        have Z5i := Lib.hid (hbut.box Z5.out (by omega))
        have HTi := Lib.hid (hbut.box HT3.out (by omega))
        have hbi : Below w.heap.size w wr := hbut.below (by omega) HB3.out (by have := HB3.out.size; exact this)
        have BD := leftK_bd (x := (t.s k).shut.toNat) (HK.out.f k hlt) HK.out.u hi
        have hL := Lib.hid (show leftK t.u (t.s k).flow (t.s k).shut.toNat (i + 1) = if hasB (t.s k).shut.toNat i then leftK t.u (t.s k).flow (t.s k).shut.toNat i else ⟨(leftK t.u (t.s k).flow (t.s k).shut.toNat i).lo - (t.u i).hi, (leftK t.u (t.s k).flow (t.s k).shut.toNat i).hi - (t.u i).lo⟩ from rfl)
        by_cases hlti : i < t.n
        · have hd2 : decide (i < t.n) = true := by simpa using hlti
          have hi0 : (0 : Int) ≤ (i : Int) := by omega
          have hi1 : (i : Int) < (t.n : Int) := by omega
          obtain ⟨bu, ou, rfl, lu, u0, u1⟩ := (HU.out.mono hbi) i hlti
          have ub := HK.out.u i hlti
          simp only [litB, spanB, decide_eq_true_eq] at ub
          have c0 := Z5i.out.cell 0 (v := .int .i64 (t.s k).shut) rfl
          have c9 := Z5i.out.lt
          generalize leftK t.u (t.s k).flow (t.s k).shut.toNat i = Lf at *
          have l0 := hz6.cell 0 (v := .int .i64 Lf.lo) rfl
          have l1 := hz6.cell 1 (v := .int .i64 Lf.hi) rfl
          have l2 := hz6.frozen 0
          have l3 := hz6.frozen 1
          have l4 := hz6.lt
          have hx := Nat.lt_of_lt_of_le (HK.out.s1 k hlt) (pow_ten hn2)
          have hbit := bit_zero (i := i) (HK.out.s0 k hlt) hx
          cases hh : hasB (t.s k).shut.toNat i
          · rw [hh] at hbit
            have hbit : (bits BinOp.and IntKind.i64 ((t.s k).shut / 2 ^ i) 1 == 0) = true := hbit
            have HL := Lib.hid (show leftK t.u (t.s k).flow (t.s k).shut.toNat (i + 1) = ⟨Lf.lo - (t.u i).hi, Lf.hi - (t.u i).lo⟩ by rw [hL.out, hh]; rfl)
            clear hh hL
            go_wp2_with fail
            go_roundw
            case rel => exact ⟨i + 1, by omega, by go_num, by rw [HL.out]; exact (hz6.set2 _ _).old _, ((hbut.setCell _ _).setCell _ _).alloc _⟩
            case measure => simp [intOf]; omega
          · rw [hh] at hbit
            have hbit : (bits BinOp.and IntKind.i64 ((t.s k).shut / 2 ^ i) 1 == 0) = false := hbit
            have HL := Lib.hid (show leftK t.u (t.s k).flow (t.s k).shut.toNat (i + 1) = Lf by rw [hL.out, hh]; rfl)
            clear hh hL
            go_wp2_with fail
            go_roundw
            case rel => exact ⟨i + 1, by omega, by go_num, by rw [HL.out]; exact hz6.old _, hbut.alloc _⟩
            case measure => simp [intOf]; omega
        · obtain rfl : i = t.n := by omega
          have hd2 : decide (t.n < t.n) = false := by simp
          have hz6 : Box (q + 1) #[.int .i64 (t.rest k).flow.lo, .int .i64 (t.rest k).flow.hi] 34 wr := hz6
          have HGi := Lib.hid (hbut.box HG3.out (by omega))
          have g7 := HGi.out.lt
          clear BD hL
          go_wp2_with fail
          have hT2 := HTi.out
          have hG2 := HGi.out
          have h52 := Z5i.out
          have hO2 := owns_but HO3.out hbut (own_ne HO3.out Z6.out (by decide))
          obtain ⟨ov, oc, rfl, -⟩ := owns_form hO2
          have hSs : w.heap.size ≤ wr.heap.size := hbi.size
          have HC0 := Lib.hid (show RC w.heap.size G q w t oa ca (some ⟨bs, os, none⟩) cb k wr from ⟨hbi, hT2, ⟨_, hG2⟩, h52, hz6⟩)
          have HRo := Lib.hid hO2
          have HGv := Lib.hid hG2
          clear hT2 hG2 h52 hO2 hbut HGi HTi Z5i hz6 hbi HG3 HT3 HO3 HB3 Z5 Z6
          have hCC : ∀ A B : World, RC w.heap.size G q w t oa ca (some ⟨bs, os, none⟩) cb k A → Below A.heap.size A B → RC w.heap.size G q w t oa ca (some ⟨bs, os, none⟩) cb k B := fun A B h1 h2 => h1.on h2
          have hC0 : RC w.heap.size G q w t oa ca (some ⟨bs, os, none⟩) cb k wr.drew := hCC _ _ HC0.out (Below.refl _ _).drew
          have zG := HGv.out.drew
          have zR := owns_below HRo.out ((Below.refl wr.heap.size wr).drew)
          refine wp_region_garb (RC w.heap.size G q w t oa ca (some ⟨bs, os, none⟩) cb k) (by kernel_rfl) ?_
          (refine wpAnyG_take (i := 0) hCC hC0 rfl (by kernel_rfl) (by kernel_rfl) (by kernel_rfl) (fun _ _ _ _ h => h) (by rfl) ?_; apply Exists.intro; refine ⟨fun w1 h1 K hK => ?_, ?_⟩; · ( go_big_quiet_op; first | exact hK | fail))
          (refine wpAnyG_take (i := 1) hCC hC0 rfl (by kernel_rfl) (by kernel_rfl) (by kernel_rfl) (fun _ _ _ _ h => h) (by rfl) ?_; apply Exists.intro; refine ⟨fun w1 h1 K hK => ?_, ?_⟩; · ( go_big_quiet_op; first | exact hK | fail))
          (refine wpAnyG_take (i := 2) hCC hC0 rfl (by kernel_rfl) (by kernel_rfl) (by kernel_rfl) (fun _ _ _ _ h => h) (by rfl) ?_; apply Exists.intro; refine ⟨fun w1 h1 K hK => ?_, ?_⟩; · ( go_big_quiet_op; first | exact hK | fail))
          (refine wpAnyG_take (i := 3) hCC hC0 rfl (by kernel_rfl) (by kernel_rfl) (by kernel_rfl) (fun _ _ _ _ h => h) (by rfl) ?_; apply Exists.intro; refine ⟨fun w1 h1 K hK => ?_, ?_⟩; · ( go_big_quiet_op; first | exact hK | fail))
          (refine wpAnyG_take (i := 5) hCC hC0 rfl (by kernel_rfl) (by kernel_rfl) (by kernel_rfl) (fun _ _ _ _ h => h) (by rfl) ?_; apply Exists.intro; refine ⟨fun w1 h1 K hK => ?_, ?_⟩; · ( go_big_quiet_op; first | exact hK | fail))
          (refine wpAnyG_take (i := 6) hCC hC0 rfl (by kernel_rfl) (by kernel_rfl) (by kernel_rfl) (fun _ _ _ _ h => h) (by rfl) ?_; apply Exists.intro; refine ⟨fun w1 h1 K hK => ?_, ?_⟩; · (have f0 : ∀ W : Aft w1, W.val.cell? ⟨q, 0, none⟩ = some (.int .i64 (t.s k).shut) := fun W => ((hCC _ _ h1 W.below).z5).cell 0 rfl; go_big_quiet_op; first | exact hK | fail))
          (refine wpAnyG_take (i := 7) hCC hC0 rfl (by kernel_rfl) (by kernel_rfl) (by kernel_rfl) (fun _ _ _ _ h => h) (by rfl) ?_; apply Exists.intro; refine ⟨fun w1 h1 K hK => ?_, ?_⟩; · (have f0 : ∀ W : Aft w1, W.val.cell? ⟨q + 1, 0, none⟩ = some (.int .i64 (t.rest k).flow.lo) := fun W => ((hCC _ _ h1 W.below).z6).cell 0 rfl; have f1 : ∀ W : Aft w1, W.val.cell? ⟨q + 1, 1, none⟩ = some (.int .i64 (t.rest k).flow.hi) := fun W => ((hCC _ _ h1 W.below).z6).cell 1 rfl; go_big_quiet_op; first | exact hK | fail))
          (refine wpAnyG_take (i := 8) hCC hC0 rfl (by kernel_rfl) (by kernel_rfl) (by kernel_rfl) (fun _ _ _ _ h => h) (by rfl) ?_; apply Exists.intro; refine ⟨fun w1 h1 K hK => ?_, ?_⟩; · ( go_big_quiet_op; first | exact hK | fail))
          (refine wpAnyG_two (i := 4) (k := 9) (by kernel_rfl) rfl rfl (by rfl) (by rfl) (fun wa hwa K hK => ?_) (fun wa hwa K hK => ?_))
          · have c4 := (zG.below hwa).cell 4 rfl
            have c5 := (zG.below hwa).lt
            go_simp
            refine hK _ _ (hCC _ _ hC0 hwa) ?_
            clear hK K c4 c5
            have hC1 := hCC _ _ hC0 hwa
            have zG1 := zG.below hwa
            have zR1 := owns_below zR hwa
            clear hC0 zG zR hwa
            (refine wpAnyG_one (i := 9) (by kernel_rfl) rfl (by rfl) (fun wb hwb K hK => ?_))
            go_simp
            have hbx := hwb.trans ((below_alloc1 wb (.cells #[.int .i64 (t.s k).shut, .int .i64 (t.rest k).flow.lo, .int .i64 (t.rest k).flow.hi] 75)).mono hwb.size)
            have hC0 := hCC _ _ hC1 hbx
            have zG := zG1.below hbx
            have zR := owns_below zR1 hbx
            have zN := Box.new (g := wb.heap.size) #[.int .i64 (t.s k).shut, .int .i64 (t.rest k).flow.lo, .int .i64 (t.rest k).flow.hi] 75 wb rfl
            refine hK _ _ hC0 ?_
            clear hK K hC1 zG1 zR1 hwb hbx
            obtain ⟨gN, hG9⟩ : ∃ g, g = wb.heap.size := ⟨_, rfl⟩
            obtain ⟨X, hX9⟩ : ∃ X, X = wb.alloc (.cells #[.int .i64 (t.s k).shut, .int .i64 (t.rest k).flow.lo, .int .i64 (t.rest k).flow.hi] 75) := ⟨_, rfl⟩
            rw [← hG9] at zN ⊢
            rw [← hX9] at zN zG zR hC0 ⊢
            clear hG9 hX9
            have hlt2 : k + 1 ≤ 12 := by omega
            (refine wpAnyG_one (i := 10) (by kernel_rfl) rfl (by rfl) (fun wc hwc K hK => ?_))
            have HC2 := hCC _ _ hC0 hwc
            have zRc := owns_below zR hwc
            have zGc := zG.below hwc
            have zNc := zN.below hwc
            have hsz9 := HC2.low.size
            refine wp_append_gen (.tmp 54) (.tmp 59) 71 rfl w.heap.size 75 iR _ 3 24 Tryd.underlying71 hiR hzR0 hzR1 hzR2 rfl (by omega) (.slice ov k oc) k (stpNews k t.rest) rfl zRc (some ⟨gN, 0, none⟩) 1 1 [.int .i64 (t.rest k).shut, .int .i64 (t.rest k).flow.lo, .int .i64 (t.rest k).flow.hi] rfl (fun e9 => by cases e9) rfl (fun ad9 e9 j9 u9 hu9 => by cases e9; rw [add_flat, Nat.zero_add]; exact zNc.cell j9 (by rw [List.getElem?_toArray]; exact hu9)) (by simp [Value.oneCell']) (by simp only [maxLen]; omega) (by omega) hsz9 (fun vS wS hownS hgrowS => ?_)
            have hC3 : RC w.heap.size G q w t oa ca (some ⟨bs, os, none⟩) cb k wS := ⟨below_grown HC2.low zRc hgrowS, box_grown HC2.T zRc (by decide) hgrowS, ⟨_, box_grown zGc zRc (by decide) hgrowS⟩, box_grown HC2.z5 zRc (by decide) hgrowS, box_grown HC2.z6 zRc (by decide) hgrowS⟩
            have zG3 := box_grown zGc zRc (by decide) hgrowS
            obtain ⟨oV, cV, rfl, -⟩ := owns_form hownS
            go_simp
            refine hK _ _ hC3 ?_
            clear hK K HC2 zRc zGc zNc hC0 zR zG zN hgrowS hwc hsz9
            have hC0 := hC3
            clear hC3
            (refine wpAnyG_take (i := 11) hCC hC0 rfl (by kernel_rfl) (by kernel_rfl) (by kernel_rfl) (fun _ _ _ _ h => h) (by rfl) ?_; apply Exists.intro; refine ⟨fun w1 h1 K hK => ?_, ?_⟩; · ( go_big_quiet_op; first | exact hK | fail))
            (refine wpAnyG_take (i := 12) hCC hC0 rfl (by kernel_rfl) (by kernel_rfl) (by kernel_rfl) (fun _ _ _ _ h => h) (by rfl) ?_; apply Exists.intro; refine ⟨fun w1 h1 K hK => ?_, ?_⟩; · ( go_big_quiet_op; first | exact hK | fail))
            (refine wpAnyG_one (i := 13) (by kernel_rfl) rfl (by rfl) (fun wd hwd K hK => ?_))
            have HC4 := hCC _ _ hC0 hwd
            have zR4 := owns_below hownS hwd
            have zG4 := zG3.below hwd
            refine wp_store_slice zG4 rfl rfl rfl (by simp) (by kernel_rfl) (fun we ze ho => ?_)
            dsimp only [Act.put]
            have zR5 := owns_but zR4 ho.but (own_ne zR4 zG4 (by decide))
            have hC5 : RC w.heap.size G q w t oa ca (some ⟨bs, os, none⟩) cb k we := ⟨HC4.low.trans (ho.below hG0), ho.box HC4.T hG1, ⟨_, ze⟩, ho.box HC4.z5 (by omega), ho.box HC4.z6 (by omega)⟩
            refine hK _ _ hC5 ?_
            clear hK K HC4 zR4 zG4 hC0 ho hownS zG3 hwd
            refine wpAnyG_done (by kernel_rfl) (fun wz hwz => ?_) _
            have HC6 := Lib.hid (hCC _ _ hC5 hwz)
            have ZG6 := Lib.hid (ze.below hwz)
            have ZR6 := Lib.hid (owns_below zR5 hwz)
            clear hC5 ze zR5 hwz hCC
            go_wp2_with fail
            go_roundw
            case rel => exact ⟨k + 1, by omega, by go_num, _, ZG6.out, by rw [stpNews_succ]; exact ZR6.out, HC6.out.low, HC6.out.T⟩
            case measure => simp [intOf]; omega
          · go_simp
            have hbx := hwa.trans ((below_alloc1 wa (.cells #[.int .i64 (t.s k).shut, .int .i64 (t.rest k).flow.lo, .int .i64 (t.rest k).flow.hi] 75)).mono hwa.size)
            have hC1 := hCC _ _ hC0 hbx
            have zG1 := zG.below hbx
            have zR1 := owns_below zR hbx
            have zN1 := Box.new (g := wa.heap.size) #[.int .i64 (t.s k).shut, .int .i64 (t.rest k).flow.lo, .int .i64 (t.rest k).flow.hi] 75 wa rfl
            refine hK _ _ hC1 ?_
            clear hK K hC0 zG zR hwa hbx
            obtain ⟨gN, hG9⟩ : ∃ g, g = wa.heap.size := ⟨_, rfl⟩
            obtain ⟨X1, hX9⟩ : ∃ X, X = wa.alloc (.cells #[.int .i64 (t.s k).shut, .int .i64 (t.rest k).flow.lo, .int .i64 (t.rest k).flow.hi] 75) := ⟨_, rfl⟩
            rw [← hG9] at zN1 ⊢
            rw [← hX9] at zN1 zG1 zR1 hC1 ⊢
            clear hG9 hX9
            (refine wpAnyG_one (i := 4) (by kernel_rfl) rfl (by rfl) (fun X hX K hK => ?_))
            have c4 := (zG1.below hX).cell 4 rfl
            have c5 := (zG1.below hX).lt
            go_simp
            have hC0 := hCC _ _ hC1 hX
            have zG := zG1.below hX
            have zR := owns_below zR1 hX
            have zN := zN1.below hX
            refine hK _ _ hC0 ?_
            clear hK K hC1 zG1 zR1 zN1 hX c4 c5
            have hlt2 : k + 1 ≤ 12 := by omega
            (refine wpAnyG_one (i := 10) (by kernel_rfl) rfl (by rfl) (fun wc hwc K hK => ?_))
            have HC2 := hCC _ _ hC0 hwc
            have zRc := owns_below zR hwc
            have zGc := zG.below hwc
            have zNc := zN.below hwc
            have hsz9 := HC2.low.size
            refine wp_append_gen (.tmp 54) (.tmp 59) 71 rfl w.heap.size 75 iR _ 3 24 Tryd.underlying71 hiR hzR0 hzR1 hzR2 rfl (by omega) (.slice ov k oc) k (stpNews k t.rest) rfl zRc (some ⟨gN, 0, none⟩) 1 1 [.int .i64 (t.rest k).shut, .int .i64 (t.rest k).flow.lo, .int .i64 (t.rest k).flow.hi] rfl (fun e9 => by cases e9) rfl (fun ad9 e9 j9 u9 hu9 => by cases e9; rw [add_flat, Nat.zero_add]; exact zNc.cell j9 (by rw [List.getElem?_toArray]; exact hu9)) (by simp [Value.oneCell']) (by simp only [maxLen]; omega) (by omega) hsz9 (fun vS wS hownS hgrowS => ?_)
            have hC3 : RC w.heap.size G q w t oa ca (some ⟨bs, os, none⟩) cb k wS := ⟨below_grown HC2.low zRc hgrowS, box_grown HC2.T zRc (by decide) hgrowS, ⟨_, box_grown zGc zRc (by decide) hgrowS⟩, box_grown HC2.z5 zRc (by decide) hgrowS, box_grown HC2.z6 zRc (by decide) hgrowS⟩
            have zG3 := box_grown zGc zRc (by decide) hgrowS
            obtain ⟨oV, cV, rfl, -⟩ := owns_form hownS
            go_simp
            refine hK _ _ hC3 ?_
            clear hK K HC2 zRc zGc zNc hC0 zR zG zN hgrowS hwc hsz9
            have hC0 := hC3
            clear hC3
            (refine wpAnyG_take (i := 11) hCC hC0 rfl (by kernel_rfl) (by kernel_rfl) (by kernel_rfl) (fun _ _ _ _ h => h) (by rfl) ?_; apply Exists.intro; refine ⟨fun w1 h1 K hK => ?_, ?_⟩; · ( go_big_quiet_op; first | exact hK | fail))
            (refine wpAnyG_take (i := 12) hCC hC0 rfl (by kernel_rfl) (by kernel_rfl) (by kernel_rfl) (fun _ _ _ _ h => h) (by rfl) ?_; apply Exists.intro; refine ⟨fun w1 h1 K hK => ?_, ?_⟩; · ( go_big_quiet_op; first | exact hK | fail))
            (refine wpAnyG_one (i := 13) (by kernel_rfl) rfl (by rfl) (fun wd hwd K hK => ?_))
            have HC4 := hCC _ _ hC0 hwd
            have zR4 := owns_below hownS hwd
            have zG4 := zG3.below hwd
            refine wp_store_slice zG4 rfl rfl rfl (by simp) (by kernel_rfl) (fun we ze ho => ?_)
            dsimp only [Act.put]
            have zR5 := owns_but zR4 ho.but (own_ne zR4 zG4 (by decide))
            have hC5 : RC w.heap.size G q w t oa ca (some ⟨bs, os, none⟩) cb k we := ⟨HC4.low.trans (ho.below hG0), ho.box HC4.T hG1, ⟨_, ze⟩, ho.box HC4.z5 (by omega), ho.box HC4.z6 (by omega)⟩
            refine hK _ _ hC5 ?_
            clear hK K HC4 zR4 zG4 hC0 ho hownS zG3 hwd
            refine wpAnyG_done (by kernel_rfl) (fun wz hwz => ?_) _
            have HC6 := Lib.hid (hCC _ _ hC5 hwz)
            have ZG6 := Lib.hid (ze.below hwz)
            have ZR6 := Lib.hid (owns_below zR5 hwz)
            clear hC5 ze zR5 hwz hCC
            go_wp2_with fail
            go_roundw
            case rel => exact ⟨k + 1, by omega, by go_num, _, ZG6.out, by rw [stpNews_succ]; exact ZR6.out, HC6.out.low, HC6.out.T⟩
            case measure => simp [intOf]; omega
    · obtain rfl : k = t.m := by omega
      have hd1 : decide (t.m < t.m) = false := by simp
      obtain ⟨or, cr, rfl, hR⟩ := owns_stps HO.out
      have HR := Lib.hid hR
      clear hR HO
      go_wp2_with fail
      go_ret
      exact ⟨.inr ⟨HV.out, G, or, cr, rfl, HG.out, HR.out⟩, hb⟩
end Go.Proofs.YtmeeknmjhlfnaaaDoor
