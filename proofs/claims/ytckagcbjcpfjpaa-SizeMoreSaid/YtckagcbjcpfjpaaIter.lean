/- The iterator open yields the sets that can be open, in their order, with what they draw; the house is valid. -/
import Derived.Test.YtckagcbjcpfjpaaW5
import Derived.Test.YtckagcbjcpfjpaaPlain2
import Derived.Test.YtckagcbjcpfjpaaMap
import Derived.Test.YtckagcbjcpfjpaaRange
import Derived.Test.YtckagcbjcpfjpaaShelf
import Derived.StillTailTactics
import Derived.OwnWalkIn
import Derived.TacticsInMore
import Derived.LoopNIn
import Derived.LoopIn
namespace Go.Proofs.Ytckagcbjcpfjpaa
open Go.RowKit Go.Shelf
attribute [local go_sem] Oper.semAt_some
def House.flo (h : House) (s : Nat) : Int := sumN h.nt fun k => if bitAt s k then (h.t k).lo else 0
def House.fhi (h : House) (s : Nat) : Int := sumN h.nt fun k => if bitAt s k then (h.t k).hi else 0
def House.need (h : House) (s : Nat) : Int := maxN h.nt fun k => if bitAt s k then (h.t k).need else 0
def House.ok (h : House) (s : Nat) : Bool := allowedB s h.nr fun i => ((h.r i).taps.toNat, (h.r i).most)
abbrev House.draw (h : House) (s : Nat) : Value := .agg #[.int .i64 (h.flo s), .int .i64 (h.fhi s), .int .i64 (h.need s)]
def House.opens (h : House) (n : Nat) : List Nat := (List.range n).filter h.ok

theorem below_putObj {B : Nat} {A W : World} (h : Below B A W) {l : Nat} (hl : B ≤ l) (o : Obj) : Below B A (W.putObj l o) :=
  ⟨h.os, h.tape, h.output, by simpa using h.size, fun k hk => (World.putObj_heap_other (by omega)).trans (h.block k hk)⟩
theorem opens_succ (h : House) (s : Nat) : h.opens (s + 1) = if h.ok s then h.opens s ++ [s] else h.opens s := by
  simp only [House.opens, List.range_succ, List.filter_append, List.filter_cons, List.filter_nil]
  split <;> simp
theorem opens_length (h : House) (s : Nat) : (h.opens s).length ≤ s := by
  have := List.length_filter_le h.ok (List.range s)
  simpa [House.opens] using this
theorem opens_prefix (h : House) {s m : Nat} (hm : s ≤ m) : h.opens s <+: h.opens m := by
  obtain ⟨k, rfl⟩ : ∃ k, m = s + k := ⟨m - s, by omega⟩
  simp only [House.opens, List.range_add, List.filter_append]
  exact List.prefix_append _ _
theorem wrap_lim (n : Nat) (hn : n ≤ 10) : wrap64 (2 ^ n) = ((2 ^ n : Nat) : Int) := by
  have : n = 0 ∨ n = 1 ∨ n = 2 ∨ n = 3 ∨ n = 4 ∨ n = 5 ∨ n = 6 ∨ n = 7 ∨ n = 8 ∨ n = 9 ∨ n = 10 := by omega
  rcases this with h | h | h | h | h | h | h | h | h | h | h <;> subst h <;> decide +kernel
theorem valid_nt {h : House} (hv : h.valid = true) : 1 ≤ h.nt ∧ h.nt ≤ 10 ∧ h.nr ≤ 8 ∧ 0 ≤ h.head ∧ h.head ≤ 10000 ∧ 0 ≤ h.drip ∧ h.drip ≤ 1000000 := by
  simp only [House.valid, withinB, Bool.and_eq_true, decide_eq_true_eq] at hv
  omega
theorem valid_tap {h : House} (hv : h.valid = true) (i : Nat) (hi : i < h.nt) : 0 ≤ (h.t i).lo ∧ (h.t i).lo ≤ (h.t i).hi ∧ (h.t i).hi ≤ 100000 ∧ 0 ≤ (h.t i).need ∧ (h.t i).need ≤ 10000 := by
  simp only [House.valid, Bool.and_eq_true, Bool.not_eq_true'] at hv
  have h1 := hv.1.2
  have : ¬ tapBad (h.t i).lo (h.t i).hi (h.t i).need = true := fun hb => by
    rw [anyB_iff.2 ⟨i, hi, hb⟩] at h1; cases h1
  simp [tapBad, withinB] at this
  omega
theorem pow_le (n : Nat) (hn : n ≤ 10) : 2 ^ n ≤ 1024 := Nat.pow_le_pow_right (by omega) hn
theorem valid_rule {h : House} (hv : h.valid = true) (i : Nat) (hi : i < h.nr) : (h.r i).taps = ((h.r i).taps.toNat : Int) ∧ (h.r i).taps.toNat < 2 ^ h.nt ∧ (h.r i).taps.toNat < 1024 ∧ 0 ≤ (h.r i).most ∧ (h.r i).most ≤ 10 := by
  have hnt := (valid_nt hv).2.1
  simp only [House.valid, Bool.and_eq_true, Bool.not_eq_true'] at hv
  have h1 := hv.2
  have : ¬ ruleBad h.nt (h.r i).taps (h.r i).most = true := fun hb => by
    rw [anyB_iff.2 ⟨i, hi, hb⟩] at h1; cases h1
  simp [ruleBad, withinB] at this
  have hp := pow_le h.nt hnt
  have e : ((2 ^ h.nt : Nat) : Int) = 2 ^ h.nt := by simp
  rw [← e] at this
  generalize 2 ^ h.nt = M at *
  omega

theorem flo_step (h : House) (hn : h.nt ≤ 10) {s L : Nat} (hL : L < h.nt) (h5 : bitAt s L = true) (h6 : ∀ k, k < 10 → bitAt (s - 2 ^ L) k = (bitAt s k && k != L)) : h.flo s = h.flo (s - 2 ^ L) + (h.t L).lo :=
  sumN_add hL (fun k hk hne => by rw [h6 k (by omega)]; simp [hne]) (by rw [h6 L (by omega)]; simp) (by simp [h5])
theorem fhi_step (h : House) (hn : h.nt ≤ 10) {s L : Nat} (hL : L < h.nt) (h5 : bitAt s L = true) (h6 : ∀ k, k < 10 → bitAt (s - 2 ^ L) k = (bitAt s k && k != L)) : h.fhi s = h.fhi (s - 2 ^ L) + (h.t L).hi :=
  sumN_add hL (fun k hk hne => by rw [h6 k (by omega)]; simp [hne]) (by rw [h6 L (by omega)]; simp) (by simp [h5])
theorem need_step (h : House) (hn : h.nt ≤ 10) {s L : Nat} (hL : L < h.nt) (h5 : bitAt s L = true) (h6 : ∀ k, k < 10 → bitAt (s - 2 ^ L) k = (bitAt s k && k != L)) : h.need s = max (h.need (s - 2 ^ L)) (h.t L).need :=
  maxN_add hL (fun k hk hne => by rw [h6 k (by omega)]; simp [hne]) (by rw [h6 L (by omega)]; simp) (by simp [h5])
theorem flo_bd {h : House} (hv : h.valid = true) (s : Nat) : 0 ≤ h.flo s ∧ h.flo s ≤ 1000000 := by
  have hn := (valid_nt hv).2.1
  have := sumN_bd (n := h.nt) (f := fun k => if bitAt s k then (h.t k).lo else 0) (b := 100000) (fun k hk => by
    have := valid_tap hv k hk
    split <;> omega)
  unfold House.flo
  omega
theorem fhi_bd {h : House} (hv : h.valid = true) (s : Nat) : 0 ≤ h.fhi s ∧ h.fhi s ≤ 1000000 := by
  have hn := (valid_nt hv).2.1
  have := sumN_bd (n := h.nt) (f := fun k => if bitAt s k then (h.t k).hi else 0) (b := 100000) (fun k hk => by
    have := valid_tap hv k hk
    split <;> omega)
  unfold House.fhi
  omega
theorem sumN_zero (n : Nat) : sumN n (fun _ => 0) = 0 := by
  induction n with
  | zero => rfl
  | succ n ih => simp [sumN, ih]
theorem maxN_zero (n : Nat) : maxN n (fun _ => 0) = 0 := by
  induction n with
  | zero => rfl
  | succ n ih => simp [maxN, ih]
theorem flo_zero (h : House) : h.flo 0 = 0 := by simp [House.flo, bitAt, sumN_zero]
theorem fhi_zero (h : House) : h.fhi 0 = 0 := by simp [House.fhi, bitAt, sumN_zero]
theorem need_zero (h : House) : h.need 0 = 0 := by simp [House.need, bitAt, maxN_zero]
theorem cells3_new (w : World) (x y z : Value) (t : TypeId) : (w.alloc (.cells #[x, y, z] t)).cell? ⟨w.heap.size, 0, none⟩ = some x ∧ (w.alloc (.cells #[x, y, z] t)).cell? ⟨w.heap.size, 1, none⟩ = some y ∧ (w.alloc (.cells #[x, y, z] t)).cell? ⟨w.heap.size, 2, none⟩ = some z := by
  refine ⟨?_, ?_, ?_⟩ <;> rw [World.cell?_alloc_new] <;> rfl
theorem frozen_new (w : World) (C : Array Value) (t : TypeId) (j : Nat) : (w.alloc (.cells C t)).frozen? ⟨w.heap.size, j, none⟩ = false := by
  simp [go_sem]

theorem set3 (w : World) (N : Nat) (a b c x y z : Value) (h0 : w.cell? ⟨N, 0, none⟩ = some a) (h1 : w.cell? ⟨N, 1, none⟩ = some b) (h2 : w.cell? ⟨N, 2, none⟩ = some c) :
    (((w.setCell ⟨N, 0, none⟩ x).setCell ⟨N, 1, none⟩ y).setCell ⟨N, 2, none⟩ z).cell? ⟨N, 0, none⟩ = some x ∧ (((w.setCell ⟨N, 0, none⟩ x).setCell ⟨N, 1, none⟩ y).setCell ⟨N, 2, none⟩ z).cell? ⟨N, 1, none⟩ = some y ∧ (((w.setCell ⟨N, 0, none⟩ x).setCell ⟨N, 1, none⟩ y).setCell ⟨N, 2, none⟩ z).cell? ⟨N, 2, none⟩ = some z := by
  refine ⟨?_, ?_, ?_⟩ <;> simp [go_sem, h0, h1, h2]
theorem setCell_size (w : World) (a : Addr) (v : Value) : (w.setCell a v).heap.size = w.heap.size := by simp [World.setCell]
set_option maxRecDepth 100000 in
set_option maxHeartbeats 1000000 in
theorem open_seq (h : House) (hv : h.valid = true) (ta ra : Option Addr) (tc rc hb : Nat) (w0 W0 : World) (hT : TapsAt w0 ta h.nt h.t) (hR : RulesAt w0 ra h.nr h.r) (hbe : Below w0.heap.size w0 W0) (hlb : hb < W0.heap.size)
    (hc2 : W0.cell? ⟨hb, 2, none⟩ = some (.slice ta h.nt tc)) (hc3 : W0.cell? ⟨hb, 3, none⟩ = some (.slice ra h.nr rc)) (n : Nat) (hn : 5 ≤ n) :
    SeqB Fence.wide n Try.prog 53 #[.pointer (some ⟨hb, 0, none⟩)] (fun s : Nat => #[.int .i64 s, h.draw s]) (fun b => b < w0.heap.size ∨ b = hb) (fun xs => xs = h.opens (2 ^ h.nt)) (fun pre => pre <+: h.opens (2 ^ h.nt)) 1024 W0 := by
  intro l J Jx W hW hJ hJx hY h0
  refine callsIn_of_wp Try.func53 rfl trivial ?_ rfl
  simp only [Try.ntmps53, List.size_toArray, List.length_cons, List.length_nil, Nat.reduceAdd, Nat.reduceSub, Array.replicate_succ, Array.replicate_zero, List.push_toArray, List.append_toArray, List.nil_append, List.cons_append]
  have hmm := @run_makeMap Try.prog
  have hY' := Lib.hid hY
  clear hY
  have hlb2 := Nat.lt_of_lt_of_le hlb hW.size
  have hd2 := (hW.cell (a := ⟨hb, 2, none⟩) hlb (.inr rfl)).trans hc2
  have hd3 := (hW.cell (a := ⟨hb, 3, none⟩) hlb (.inr rfl)).trans hc3
  have hnt := valid_nt hv
  obtain ⟨M, hM⟩ : ∃ M, M = 2 ^ h.nt := ⟨_, rfl⟩
  have hlim : wrap64 (2 ^ h.nt) = (M : Int) := by rw [hM]; exact wrap_lim _ (by omega)
  have hM4 : M ≤ 1024 := by rw [hM]; exact pow_le _ (by omega)
  rw [← hM]
  have HM := Lib.hid hM
  clear hM
  gi_wp2
  gi_loopw [12] (fun v12 wr => ∃ s : Nat, s ≤ M ∧ v12 = .int .i64 s ∧ J (h.opens s) wr ∧ Same (fun b => b < w0.heap.size ∨ b = hb) W wr ∧ wr.heap[W.heap.size]? = some (drawsO h.draw s)) (fun v12 _ => M - (intOf v12).toNat)
  case atStart =>
    refine ⟨0, by omega, rfl, ?_, (Same.refl _ _).alloc _, ?_⟩
    · exact hJ _ _ _ (by simpa [House.opens] using h0) ((Same.refl _ _).alloc _)
    · rw [World.alloc_heap_new]; rfl
  case round =>
    obtain ⟨s, hs, rfl, hJs, hsame, hmap⟩ := hrel
    by_cases hlt : s < M
    · by_cases hs0 : s = 0
      · have hrne : W.heap.size ≠ wr.heap.size := by have := (Array.getElem?_eq_some_iff.1 hmap).1; omega
        have hszr : W.heap.size ≤ wr.heap.size := hsame.size
        have hd3w := (hsame.cell (a := ⟨hb, 3, none⟩) hlb2 (.inr rfl)).trans hd3
        have hb0 : ((s : Int) != 0) = false := by simpa using hs0
        have e1 : h.flo s = 0 := by subst hs0; exact flo_zero h
        have e2 : h.fhi s = 0 := by subst hs0; exact fhi_zero h
        have e3 : h.need s = 0 := by subst hs0; exact need_zero h
        clear hs0
        obtain ⟨W5, hW5⟩ : ∃ X, X = wr.alloc (Obj.cells #[.int .i64 0, .int .i64 0, .int .i64 0] 74) := ⟨_, rfl⟩
        have hm5 : W5.heap[W.heap.size]? = some (drawsO h.draw s) := by rw [hW5]; exact (Below.heap_alloc _ _ _ (Array.getElem?_eq_some_iff.1 hmap).1).trans hmap
        have x0 : W5.cell? ⟨wr.heap.size, 0, none⟩ = some (.int .i64 (h.flo s)) := by rw [hW5, e1]; exact (cells3_new _ _ _ _ _).1
        have x1 : W5.cell? ⟨wr.heap.size, 1, none⟩ = some (.int .i64 (h.fhi s)) := by rw [hW5, e2]; exact (cells3_new _ _ _ _ _).2.1
        have x2 : W5.cell? ⟨wr.heap.size, 2, none⟩ = some (.int .i64 (h.need s)) := by rw [hW5, e3]; exact (cells3_new _ _ _ _ _).2.2
        have hb5 : Below W.heap.size wr W5 := by rw [hW5]; exact (Below.refl _ _).alloc hszr _
        have hlt5 : wr.heap.size < W5.heap.size := by rw [hW5]; simp
        have hup := run_update_draws (P := Try.prog) Try.underlying95 Try.underlying72 hm5 (.agg #[.int .i64 0, .int .i64 0, .int .i64 0]) (by rw [House.draw, e1, e2, e3])
        clear e1 e2 e3
        clear hd2 hc2 hc3 hT hmm hlim
        have hrW : W.heap.size < W5.heap.size := (Array.getElem?_eq_some_iff.1 hm5).1
        have hd5 : W5.cell? ⟨hb, 3, none⟩ = some (.slice ra h.nr rc) := (hb5.cell (p := ⟨hb, 3, none⟩) hlb2).trans hd3w
        have hput : ∀ a : Addr, a.block ≠ W.heap.size → (W5.putObj W.heap.size (drawsO h.draw (s + 1))).cell? a = W5.cell? a := fun a ha => World.cell?_of_block (w := W5) (World.putObj_heap_other ha)
        have hm6 : (W5.putObj W.heap.size (drawsO h.draw (s + 1))).heap[W.heap.size]? = some (drawsO h.draw (s + 1)) := World.putObj_heap_same hrW
        have hd6 := (hput ⟨hb, 3, none⟩ (by show hb ≠ W.heap.size; omega)).trans hd5
        have y0 := (hput ⟨wr.heap.size, 0, none⟩ (fun e => hrne e.symm)).trans x0
        have y1 := (hput ⟨wr.heap.size, 1, none⟩ (fun e => hrne e.symm)).trans x1
        have y2 := (hput ⟨wr.heap.size, 2, none⟩ (fun e => hrne e.symm)).trans x2
        have hb6 := below_putObj hb5 (Nat.le_refl W.heap.size) (drawsO h.draw (s + 1))
        have hs6 : (W5.putObj W.heap.size (drawsO h.draw (s + 1))).heap.size = W5.heap.size := World.putObj_size
        obtain ⟨W6, hW6⟩ : ∃ X, X = W5.putObj W.heap.size (drawsO h.draw (s + 1)) := ⟨_, rfl⟩
        rw [← hW6] at hup hm6 hd6 y0 y1 y2 hb6 hs6
        clear hW6 hput hd5 hb5 hm5
        try (subst hW5; clear x0 x1 x2)
        gi_wp2_with fail
        have hbw6 : Below w0.heap.size w0 W6 := (hbe.trans ((hW.trans hsame).below hbe.size (fun k hk => .inl hk))).trans (hb6.mono (Nat.le_trans hbe.size hW.size))
        refine ⟨trivial, fun _ => by omega, (callsIn_wide.2 (allowed_any s ra h.nr rc h.r (fun i => (h.r i).taps.toNat) _ (by omega) (by omega) (hR.mono hbw6) (fun i hi => ⟨(valid_rule hv i hi).1, (valid_rule hv i hi).2.2.1⟩))).mono ?_⟩
        rintro e W7 ⟨rfl, hb7⟩
        have hs7 := hb7.size
        have z0 := (hb7.cell (p := ⟨wr.heap.size, 0, none⟩) (by simp; omega)).trans y0
        have z1 := (hb7.cell (p := ⟨wr.heap.size, 1, none⟩) (by simp; omega)).trans y1
        have z2 := (hb7.cell (p := ⟨wr.heap.size, 2, none⟩) (by simp; omega)).trans y2
        have hm7 := (hb7.block W.heap.size (by omega)).trans hm6
        have hb8 := hb6.trans (hb7.mono (by omega))
        clear hb6 hb7 y0 y1 y2 hm6 hup
        have hJ7 : J (h.opens s) W7 := hJ _ _ _ hJs (Same.of_below hb8 fun k _ hk => hk)
        have hS7 : Same (fun b => b < w0.heap.size ∨ b = hb) W W7 := hsame.trans (Same.of_below hb8 fun k _ hk => by
          have := hbe.size
          have := hW.size
          omega)
        by_cases hok : h.ok s = true
        · have hlen := opens_length h s
          obtain ⟨fn, tmps, assign, body, hy, hRd⟩ := hY'.out (h.opens s) s W7 hJ7 (by omega)
          have HOK := Lib.hid hok
          replace hok : allowedB s h.nr (fun i => ((h.r i).taps.toNat, (h.r i).most)) = true := hok
          gi_wp2
          refine ⟨fun _ => by omega, hRd.mono ?_⟩
          rintro e W8 (⟨rfl, hJ8, hk8⟩ | ⟨rfl, hJx8⟩)
          · have hm8 := (hk8.block W.heap.size (Array.getElem?_eq_some_iff.1 hm7).1 (.inr (Nat.le_refl _))).trans hm7
            gi_wp2
            go_roundw
            case rel => exact ⟨s + 1, by omega, by go_num, by rw [opens_succ, if_pos HOK.out]; exact hJ8, hS7.trans (hk8.mono fun k _ h => .inl h), hm8⟩
            case measure => simp [intOf]; omega
          · gi_wp2
            refine bodyPost_ret (results_none rfl _ _ _) rfl ?_
            exact ⟨⟨_, rfl⟩, .inr ⟨h.opens s ++ [s], by
              have := opens_prefix h (s := s + 1) (m := M) (by omega)
              rwa [opens_succ, if_pos HOK.out] at this, hJx8⟩⟩
        · have HOK := Lib.hid hok
          replace hok : allowedB s h.nr (fun i => ((h.r i).taps.toNat, (h.r i).most)) = false := by simpa [House.ok] using hok
          gi_wp2
          refine ⟨fun _ h => (by cases h), ?_⟩
          gi_wp2
          go_roundw
          case rel => exact ⟨s + 1, by omega, by go_num, by rw [opens_succ, if_neg HOK.out]; exact hJ7, hS7, hm7⟩
          case measure => simp [intOf]; omega
      · have hb0 : ((s : Int) != 0) = true := by simpa using hs0
        obtain ⟨L, hL1, hL2, hL3, hL4, hL5, hL6, hL7⟩ := last_of s hs0 (by omega)
        gi_wp2_with fail
        refine ⟨trivial, fun _ => by omega, (callsIn_wide.2 (Try.bits_Len s _ (by omega) (by omega))).mono ?_⟩
        rintro e w' ⟨rfl, hw'⟩
        obtain rfl := hw'
        rw [Int.toNat_natCast, hL1]
        have hz : (((L + 1 : Nat) : Int)) = (L : Int) + 1 := by omega
        rw [hz]
        clear hz hL1
        gi_wp2_with fail
        obtain ⟨Z, hZ⟩ : ∃ Z : Obj, Z = Obj.cells #[.int .i64 0, .int .i64 0, .int .i64 0] 74 := ⟨_, rfl⟩
        have hLn : L < h.nt := hL7 _ (by omega) (by rw [← HM.out]; exact hlt)
        have hbw : Below w0.heap.size w0 (wr.alloc Z) := (hbe.trans ((hW.trans hsame).below (hbe.size) (fun k hk => .inl hk))).alloc (Nat.le_trans hbe.size (Nat.le_trans hW.size hsame.size)) _
        have hszW := hsame.size
        have hmap2 : (wr.alloc Z).heap[W.heap.size]? = some (drawsO h.draw s) := (Below.heap_alloc _ _ _ (Array.getElem?_eq_some_iff.1 hmap).1).trans hmap
        obtain ⟨b, off, rfl, hlt0, c0, c1, c2⟩ := (hT.mono hbw) L hLn
        have hw2 : (wr.alloc Z).cell? ⟨hb, 2, none⟩ = some (.slice (some ⟨b, off, none⟩) h.nt tc) := (((hsame.alloc Z).cell (a := ⟨hb, 2, none⟩) hlb2 (.inr rfl))).trans hd2
        clear hb0
        rw [← hZ]
        have hZs : (wr.alloc Z).cell? ⟨wr.heap.size, 0, none⟩ = some (.int .i64 0) ∧ (wr.alloc Z).cell? ⟨wr.heap.size, 1, none⟩ = some (.int .i64 0) ∧ (wr.alloc Z).cell? ⟨wr.heap.size, 2, none⟩ = some (.int .i64 0) := by subst hZ; exact cells3_new _ _ _ _ _
        have hZf : (wr.alloc Z).frozen? ⟨wr.heap.size, 0, none⟩ = false ∧ (wr.alloc Z).frozen? ⟨wr.heap.size, 1, none⟩ = false ∧ (wr.alloc Z).frozen? ⟨wr.heap.size, 2, none⟩ = false := by subst hZ; exact ⟨frozen_new _ _ _ _, frozen_new _ _ _ _, frozen_new _ _ _ _⟩
        have hbr : Below W.heap.size wr (wr.alloc Z) := (Below.refl _ _).alloc hszW _
        have hsz2 : (wr.alloc Z).heap.size = wr.heap.size + 1 := by simp
        clear hZ
        obtain ⟨W2, hW2⟩ : ∃ X, X = wr.alloc Z := ⟨_, rfl⟩
        rw [← hW2] at hbw hmap2 hlt0 c0 c1 c2 hw2 hZs hZf hbr hsz2 ⊢
        clear hW2
        have hrne : W.heap.size ≠ wr.heap.size := by have := (Array.getElem?_eq_some_iff.1 hmap).1; omega
        have hlk := run_lookup_draws (P := Try.prog) Try.underlying95 Try.underlying72 (w := W2.drew) hmap2 hL4
        refine wpIn_wide.2 ?_
        go_still_tail 11, (by kernel_rfl)
        change wpList _ _ _ _ _ W2.drew
        have hbr := hbr.drew
        have hsz2 : W2.drew.heap.size = wr.heap.size + 1 := hsz2
        have hZs : W2.drew.cell? ⟨wr.heap.size, 0, none⟩ = some (.int .i64 0) ∧ W2.drew.cell? ⟨wr.heap.size, 1, none⟩ = some (.int .i64 0) ∧ W2.drew.cell? ⟨wr.heap.size, 2, none⟩ = some (.int .i64 0) := hZs
        have hZf : W2.drew.frozen? ⟨wr.heap.size, 0, none⟩ = false ∧ W2.drew.frozen? ⟨wr.heap.size, 1, none⟩ = false ∧ W2.drew.frozen? ⟨wr.heap.size, 2, none⟩ = false := hZf
        have hmap2 : W2.drew.heap[W.heap.size]? = some (drawsO h.draw s) := hmap2
        clear hlk hw2 c0 c1 c2 hlt0 hbw
        obtain ⟨W3, hW3⟩ : ∃ X, X = W2.drew := ⟨_, rfl⟩
        rw [← hW3] at hmap2 hZs hZf hbr hsz2 ⊢
        clear hW3
        have e1 := flo_step h (by omega) hLn hL5 hL6
        have e2 := fhi_step h (by omega) hLn hL5 hL6
        have e3 := need_step h (by omega) hLn hL5 hL6
        have g1 := flo_bd hv (s - 2 ^ L)
        have g2 := fhi_bd hv (s - 2 ^ L)
        have g3 := valid_tap hv L hLn
        have E1 := Lib.hid e1
        have E2 := Lib.hid e2
        have E3 := Lib.hid e3
        clear e1 e2 e3 hL2 hL3 hL4 hL5 hL6 hL7
        go_wp2_with fail
        refine (with_any _ _ _ _ _ _ _ (by omega) (by omega) (by omega) (by omega)).mono ?_
        rintro e w4 ⟨rfl, hb4⟩
        rw [← E1.out, ← E2.out, ← E3.out]
        have hs4 := hb4.size
        have q0 := (hb4.cell (p := ⟨wr.heap.size, 0, none⟩) (by simp; omega)).trans hZs.1
        have q1 := (hb4.cell (p := ⟨wr.heap.size, 1, none⟩) (by simp; omega)).trans hZs.2.1
        have q2 := (hb4.cell (p := ⟨wr.heap.size, 2, none⟩) (by simp; omega)).trans hZs.2.2
        have f0 := (hb4.frozen (p := ⟨wr.heap.size, 0, none⟩) (by simp; omega)).trans hZf.1
        have f1 := (hb4.frozen (p := ⟨wr.heap.size, 1, none⟩) (by simp; omega)).trans hZf.2.1
        have f2 := (hb4.frozen (p := ⟨wr.heap.size, 2, none⟩) (by simp; omega)).trans hZf.2.2
        have hbq := hbr.trans (hb4.mono (by omega))
        clear hZs hZf hbr g1 g2 g3
        go_wp2
        have hd3w := (hsame.cell (a := ⟨hb, 3, none⟩) hlb2 (.inr rfl)).trans hd3
        have hszr : W.heap.size ≤ wr.heap.size := hsame.size
        obtain ⟨x0, x1, x2⟩ := set3 w4 wr.heap.size _ _ _ (.int .i64 (h.flo s)) (.int .i64 (h.fhi s)) (.int .i64 (h.need s)) q0 q1 q2
        have hb5 := ((hbq.setCell (p := ⟨wr.heap.size, 0, none⟩) hszr (.int .i64 (h.flo s))).setCell (p := ⟨wr.heap.size, 1, none⟩) hszr (.int .i64 (h.fhi s))).setCell (p := ⟨wr.heap.size, 2, none⟩) hszr (.int .i64 (h.need s))
        have hm4 := (hb4.block W.heap.size (Array.getElem?_eq_some_iff.1 hmap2).1).trans hmap2
        have hlt5 : wr.heap.size < (((w4.setCell ⟨wr.heap.size, 0, none⟩ (.int .i64 (h.flo s))).setCell ⟨wr.heap.size, 1, none⟩ (.int .i64 (h.fhi s))).setCell ⟨wr.heap.size, 2, none⟩ (.int .i64 (h.need s))).heap.size := by
          simp only [setCell_size]; omega
        have hm5 : (((w4.setCell ⟨wr.heap.size, 0, none⟩ (.int .i64 (h.flo s))).setCell ⟨wr.heap.size, 1, none⟩ (.int .i64 (h.fhi s))).setCell ⟨wr.heap.size, 2, none⟩ (.int .i64 (h.need s))).heap[W.heap.size]? = some (drawsO h.draw s) := by
          rw [Below.heap_setCell _ _ _ _ hrne, Below.heap_setCell _ _ _ _ hrne, Below.heap_setCell _ _ _ _ hrne]; exact hm4
        obtain ⟨W5, hW5⟩ : ∃ X, X = (((w4.setCell ⟨wr.heap.size, 0, none⟩ (.int .i64 (h.flo s))).setCell ⟨wr.heap.size, 1, none⟩ (.int .i64 (h.fhi s))).setCell ⟨wr.heap.size, 2, none⟩ (.int .i64 (h.need s))) := ⟨_, rfl⟩
        rw [← hW5] at x0 x1 x2 hb5 hlt5 hm5 ⊢
        clear hW5 q0 q1 q2 f0 f1 f2 hbq hb4 hs4 hmap2 hm4
        have hup := run_update_draws (P := Try.prog) Try.underlying95 Try.underlying72 hm5 (h.draw s) rfl
        clear hd2 hc2 hc3 hT hmm hlim
        have hrW : W.heap.size < W5.heap.size := (Array.getElem?_eq_some_iff.1 hm5).1
        have hd5 : W5.cell? ⟨hb, 3, none⟩ = some (.slice ra h.nr rc) := (hb5.cell (p := ⟨hb, 3, none⟩) hlb2).trans hd3w
        have hput : ∀ a : Addr, a.block ≠ W.heap.size → (W5.putObj W.heap.size (drawsO h.draw (s + 1))).cell? a = W5.cell? a := fun a ha => World.cell?_of_block (w := W5) (World.putObj_heap_other ha)
        have hm6 : (W5.putObj W.heap.size (drawsO h.draw (s + 1))).heap[W.heap.size]? = some (drawsO h.draw (s + 1)) := World.putObj_heap_same hrW
        have hd6 := (hput ⟨hb, 3, none⟩ (by show hb ≠ W.heap.size; omega)).trans hd5
        have y0 := (hput ⟨wr.heap.size, 0, none⟩ (fun e => hrne e.symm)).trans x0
        have y1 := (hput ⟨wr.heap.size, 1, none⟩ (fun e => hrne e.symm)).trans x1
        have y2 := (hput ⟨wr.heap.size, 2, none⟩ (fun e => hrne e.symm)).trans x2
        have hb6 := below_putObj hb5 (Nat.le_refl W.heap.size) (drawsO h.draw (s + 1))
        have hs6 : (W5.putObj W.heap.size (drawsO h.draw (s + 1))).heap.size = W5.heap.size := World.putObj_size
        obtain ⟨W6, hW6⟩ : ∃ X, X = W5.putObj W.heap.size (drawsO h.draw (s + 1)) := ⟨_, rfl⟩
        rw [← hW6] at hup hm6 hd6 y0 y1 y2 hb6 hs6
        clear hW6 hput hd5 hb5 hm5
        try (subst hW5; clear x0 x1 x2)
        gi_wp2_with fail
        have hbw6 : Below w0.heap.size w0 W6 := (hbe.trans ((hW.trans hsame).below hbe.size (fun k hk => .inl hk))).trans (hb6.mono (Nat.le_trans hbe.size hW.size))
        refine ⟨trivial, fun _ => by omega, (callsIn_wide.2 (allowed_any s ra h.nr rc h.r (fun i => (h.r i).taps.toNat) _ (by omega) (by omega) (hR.mono hbw6) (fun i hi => ⟨(valid_rule hv i hi).1, (valid_rule hv i hi).2.2.1⟩))).mono ?_⟩
        rintro e W7 ⟨rfl, hb7⟩
        have hs7 := hb7.size
        have z0 := (hb7.cell (p := ⟨wr.heap.size, 0, none⟩) (by simp; omega)).trans y0
        have z1 := (hb7.cell (p := ⟨wr.heap.size, 1, none⟩) (by simp; omega)).trans y1
        have z2 := (hb7.cell (p := ⟨wr.heap.size, 2, none⟩) (by simp; omega)).trans y2
        have hm7 := (hb7.block W.heap.size (by omega)).trans hm6
        have hb8 := hb6.trans (hb7.mono (by omega))
        clear hb6 hb7 y0 y1 y2 hm6 hup
        have hJ7 : J (h.opens s) W7 := hJ _ _ _ hJs (Same.of_below hb8 fun k _ hk => hk)
        have hS7 : Same (fun b => b < w0.heap.size ∨ b = hb) W W7 := hsame.trans (Same.of_below hb8 fun k _ hk => by
          have := hbe.size
          have := hW.size
          omega)
        by_cases hok : h.ok s = true
        · have hlen := opens_length h s
          obtain ⟨fn, tmps, assign, body, hy, hRd⟩ := hY'.out (h.opens s) s W7 hJ7 (by omega)
          have HOK := Lib.hid hok
          replace hok : allowedB s h.nr (fun i => ((h.r i).taps.toNat, (h.r i).most)) = true := hok
          gi_wp2
          refine ⟨fun _ => by omega, hRd.mono ?_⟩
          rintro e W8 (⟨rfl, hJ8, hk8⟩ | ⟨rfl, hJx8⟩)
          · have hm8 := (hk8.block W.heap.size (Array.getElem?_eq_some_iff.1 hm7).1 (.inr (Nat.le_refl _))).trans hm7
            gi_wp2
            go_roundw
            case rel => exact ⟨s + 1, by omega, by go_num, by rw [opens_succ, if_pos HOK.out]; exact hJ8, hS7.trans (hk8.mono fun k _ h => .inl h), hm8⟩
            case measure => simp [intOf]; omega
          · gi_wp2
            refine bodyPost_ret (results_none rfl _ _ _) rfl ?_
            exact ⟨⟨_, rfl⟩, .inr ⟨h.opens s ++ [s], by
              have := opens_prefix h (s := s + 1) (m := M) (by omega)
              rwa [opens_succ, if_pos HOK.out] at this, hJx8⟩⟩
        · have HOK := Lib.hid hok
          replace hok : allowedB s h.nr (fun i => ((h.r i).taps.toNat, (h.r i).most)) = false := by simpa [House.ok] using hok
          gi_wp2
          refine ⟨fun _ h => (by cases h), ?_⟩
          gi_wp2
          go_roundw
          case rel => exact ⟨s + 1, by omega, by go_num, by rw [opens_succ, if_neg HOK.out]; exact hJ7, hS7, hm7⟩
          case measure => simp [intOf]; omega
    · gi_wp2
      go_end0
      have e : s = M := by omega
      subst e
      exact ⟨⟨_, rfl⟩, .inl ⟨_, rfl, hJs⟩⟩
end Go.Proofs.Ytckagcbjcpfjpaa
