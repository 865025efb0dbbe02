/- The iterator extremes yields the values of a valid table that can be the least or the greatest ones of a span within it. -/
import Derived.Test.YtlofopnjjeeehaaDoorBnC
import Derived.Test.YtlofopnjjeeehaaDoorBnD
import Derived.StillTailTactics
import Derived.OwnWalkIn
import Derived.TacticsInMore
import Derived.LoopNIn
import Derived.LoopIn
namespace Go.Proofs.YtlofopnjjeeehaaDoor.Bn
open Go.RowKit
attribute [local go_sem] Oper.semAt_some
/-- the values at the marks of a span -/
def insL (t : Nat → Mark) (s : Spn) (k : Nat) : List Frac := ((List.range k).filter fun i => withinB (t i).at_ s.lo s.hi).map fun i => ⟨(t i).value, 1⟩
def extL (n : Nat) (t : Nat → Mark) (s : Spn) (k : Nat) : List Frac := tabAt n t s.lo :: tabAt n t s.hi :: insL t s k
theorem insL_succ (t : Nat → Mark) (s : Spn) (k : Nat) : insL t s (k + 1) = if withinB (t k).at_ s.lo s.hi then insL t s k ++ [⟨(t k).value, 1⟩] else insL t s k := by
  simp only [insL, List.range_succ, List.filter_append, List.filter_cons, List.filter_nil]
  split <;> simp
theorem extL_succ (n : Nat) (t : Nat → Mark) (s : Spn) (k : Nat) : extL n t s (k + 1) = if withinB (t k).at_ s.lo s.hi then extL n t s k ++ [⟨(t k).value, 1⟩] else extL n t s k := by
  simp only [extL, insL_succ]
  split <;> simp
theorem insL_length (t : Nat → Mark) (s : Spn) (k : Nat) : (insL t s k).length ≤ k := by
  have := List.length_filter_le (fun i => withinB (t i).at_ s.lo s.hi) (List.range k)
  simpa [insL] using this
theorem extL_length (n : Nat) (t : Nat → Mark) (s : Spn) (k : Nat) : (extL n t s k).length ≤ k + 2 := by
  have := insL_length t s k
  simp [extL]; omega
theorem extL_prefix (n : Nat) (t : Nat → Mark) (s : Spn) {k m : Nat} (h : k ≤ m) : extL n t s k <+: extL n t s m := by
  obtain ⟨d, rfl⟩ : ∃ d, m = k + d := ⟨m - k, by omega⟩
  induction d with
  | zero => exact List.prefix_refl _
  | succ d ih =>
    refine (ih (by omega)).trans ?_
    rw [← Nat.add_assoc, extL_succ]
    split
    · exact List.prefix_append _ _
    · exact List.prefix_refl _
set_option maxRecDepth 100000 in
set_option maxHeartbeats 2000000 in
theorem ext_seq (n : Nat) (t : Nat → Mark) (s : Spn) (hV : Tab n t) (oa : Option Addr) (cap sb pb : Nat) (w0 W0 : World) (hT : MarksAt w0 oa n t) (hcap : n ≤ cap) (hlo : (t 0).at_ ≤ s.lo) (hlh : s.lo ≤ s.hi) (hhi : s.hi ≤ (t (n - 1)).at_) (hbe : Below w0.heap.size w0 W0) (hsb : sb < W0.heap.size) (hpb : pb < W0.heap.size)
    (hc : W0.cell? ⟨sb, 0, none⟩ = some (.slice oa n cap)) (hp0 : W0.cell? ⟨pb, 0, none⟩ = some (.int .i64 s.lo)) (hp1 : W0.cell? ⟨pb, 1, none⟩ = some (.int .i64 s.hi)) (m : Nat) (hm : 5 ≤ m) :
    SeqC Fence.wide m Tryd.prog 68 #[.pointer (some ⟨sb, 0, none⟩), .pointer (some ⟨pb, 0, none⟩)] (fun f : Frac => #[f.val]) (fun b => b < w0.heap.size ∨ b = sb ∨ b = pb) (fun xs => xs = extL n t s n) (fun pre => pre <+: extL n t s n) 20 W0 := by
  intro l J Jx W hW hJ hJx hY h0
  refine callsIn_of_wp Tryd.func68 rfl trivial ?_ rfl
  simp only [Tryd.ntmps68, List.size_toArray, List.length_cons, List.length_nil, Nat.reduceAdd, Nat.reduceSub, Array.replicate_succ, Array.replicate_zero, List.push_toArray, List.append_toArray, List.nil_append, List.cons_append]
  have hY' := Lib.hid hY
  clear hY
  have hsb2 := Nat.lt_of_lt_of_le hsb hW.size
  have hpb2 := Nat.lt_of_lt_of_le hpb hW.size
  have x0 := (hW.cell (a := ⟨sb, 0, none⟩) hsb (.inr (.inl rfl))).trans hc
  have x1 := (hW.cell (a := ⟨pb, 0, none⟩) hpb (.inr (.inr rfl))).trans hp0
  have x2 := (hW.cell (a := ⟨pb, 1, none⟩) hpb (.inr (.inr rfl))).trans hp1
  have hbW : Below w0.heap.size w0 W := hbe.trans (hW.below hbe.size (fun k hk => .inl hk))
  have hn2 := hV.few
  have HV := Lib.hid hV
  have HT := Lib.hid hT
  clear hV hT
  gi_wp2_with fail
  refine ⟨trivial, fun _ => by omega, (callsIn_wide.2 (at_any oa n cap t s.lo _ HV.out (HT.out.mono hbW) hcap hlo (by omega))).mono ?_⟩
  rintro e W1 ⟨rfl, hb1⟩
  have y0 := (hb1.cell (p := ⟨sb, 0, none⟩) hsb2).trans x0
  have y1 := (hb1.cell (p := ⟨pb, 0, none⟩) hpb2).trans x1
  have y2 := (hb1.cell (p := ⟨pb, 1, none⟩) hpb2).trans x2
  have hJ1 : J [] W1 := hJ _ _ _ h0 hb1
  have hS1 : Same (fun b => b < w0.heap.size ∨ b = sb ∨ b = pb) W W1 := Same.of_below hb1 fun k hk _ => hk
  clear x0 x1 x2
  obtain ⟨fn, tmps, assign, body, hy, hRd⟩ := hY'.out [] (tabAt n t s.lo) W1 hJ1 (by simp)
  gi_wp2
  refine ⟨fun _ => by omega, hRd.mono ?_⟩
  rintro e W2 (⟨rfl, hJ2, hk2⟩ | ⟨rfl, hJx2⟩)
  · clear hy hRd
    have hS2 : Same (fun b => b < w0.heap.size ∨ b = sb ∨ b = pb) W W2 := hS1.trans hk2
    have hs2 : W.heap.size ≤ W2.heap.size := hS2.size
    have x0 := (hk2.cell (a := ⟨sb, 0, none⟩) (Nat.lt_of_lt_of_le hsb2 hb1.size) (.inr (.inl rfl))).trans y0
    have x1 := (hk2.cell (a := ⟨pb, 0, none⟩) (Nat.lt_of_lt_of_le hpb2 hb1.size) (.inr (.inr rfl))).trans y1
    have x2 := (hk2.cell (a := ⟨pb, 1, none⟩) (Nat.lt_of_lt_of_le hpb2 hb1.size) (.inr (.inr rfl))).trans y2
    have hbW2 : Below w0.heap.size w0 W2 := hbW.trans (hS2.below hbW.size (fun k hk => .inl hk))
    have hsb3 : sb < W2.heap.size := by omega
    have hpb3 : pb < W2.heap.size := by omega
    clear y0 y1 y2 hb1 hS1 hk2 hJ1
    gi_wp2_with fail
    refine ⟨trivial, fun _ => by omega, (callsIn_wide.2 (at_any oa n cap t s.hi _ HV.out (HT.out.mono hbW2) hcap (by omega) hhi)).mono ?_⟩
    rintro e W3 ⟨rfl, hb3⟩
    have y0 := (hb3.cell (p := ⟨sb, 0, none⟩) hsb3).trans x0
    have y1 := (hb3.cell (p := ⟨pb, 0, none⟩) hpb3).trans x1
    have y2 := (hb3.cell (p := ⟨pb, 1, none⟩) hpb3).trans x2
    have hJ3 : J [tabAt n t s.lo] W3 := hJ _ _ _ hJ2 hb3
    have hS3 : Same (fun b => b < w0.heap.size ∨ b = sb ∨ b = pb) W W3 := hS2.trans (Same.of_below hb3 fun k hk _ => hk)
    clear x0 x1 x2
    obtain ⟨fn, tmps, assign, body, hy, hRd⟩ := hY'.out [tabAt n t s.lo] (tabAt n t s.hi) W3 hJ3 (by simp)
    gi_wp2
    refine ⟨fun _ => by omega, hRd.mono ?_⟩
    rintro e W4 (⟨rfl, hJ4, hk4⟩ | ⟨rfl, hJx4⟩)
    · clear hy hRd
      have hS4 : Same (fun b => b < w0.heap.size ∨ b = sb ∨ b = pb) W W4 := hS3.trans hk4
      have x0 := (hk4.cell (a := ⟨sb, 0, none⟩) (Nat.lt_of_lt_of_le hsb3 hb3.size) (.inr (.inl rfl))).trans y0
      have x1 := (hk4.cell (a := ⟨pb, 0, none⟩) (Nat.lt_of_lt_of_le hpb3 hb3.size) (.inr (.inr rfl))).trans y1
      have x2 := (hk4.cell (a := ⟨pb, 1, none⟩) (Nat.lt_of_lt_of_le hpb3 hb3.size) (.inr (.inr rfl))).trans y2
      have hs4 : W.heap.size ≤ W4.heap.size := hS4.size
      have hJ4' : J (extL n t s 0) W4 := hJ4
      clear y0 y1 y2 hb3 hS3 hk4 hJ3 hJ4 hS2 hs2 hJ2 hbW2 hsb3 hpb3
      gi_wp2
      gi_loopw [24] (fun v24 wr => ∃ k : Nat, k ≤ n ∧ v24 = .int .i64 k ∧ J (extL n t s k) wr ∧ Same (fun b => b < w0.heap.size ∨ b = sb ∨ b = pb) W wr) (fun v24 _ => n - (intOf v24).toNat)
      case atStart => exact ⟨0, by omega, rfl, hJ4', hS4⟩
      case round =>
        obtain ⟨k, hk, rfl, hJr, hSr⟩ := hrel
        have hsr := hSr.size
        by_cases hlt : k < n
        · have hbr : Below w0.heap.size w0 wr := hbW.trans (hSr.below hbW.size (fun k hk => .inl hk))
          obtain ⟨b, off, rfl, hlt0, c0, c1⟩ := (HT.out.mono hbr) k hlt
          have z1 := (hSr.cell (a := ⟨pb, 0, none⟩) hpb2 (.inr (.inr rfl))).trans ((hS4.cell (a := ⟨pb, 0, none⟩) hpb2 (.inr (.inr rfl))).symm.trans x1)
          have z2 := (hSr.cell (a := ⟨pb, 1, none⟩) hpb2 (.inr (.inr rfl))).trans ((hS4.cell (a := ⟨pb, 1, none⟩) hpb2 (.inr (.inr rfl))).symm.trans x2)
          have hpr : pb < wr.heap.size := by omega
          have hpr2 : ¬ pb = wr.heap.size := by omega
          clear x0 x1 x2 hS4 hJ4'
          have hbA := below_alloc1 wr (.cells #[.int .i64 (t k).at_, .int .i64 (t k).value] 32)
          have hJA : J (extL n t s k) (wr.alloc (.cells #[.int .i64 (t k).at_, .int .i64 (t k).value] 32)) := hJ _ _ _ hJr hbA
          have hSA : Same (fun b => b < w0.heap.size ∨ b = sb ∨ b = pb) W (wr.alloc (.cells #[.int .i64 (t k).at_, .int .i64 (t k).value] 32)) := hSr.trans (Same.of_below hbA fun k hk _ => hk)
          have HA := Lib.hid hJA
          have HS := Lib.hid hSA
          clear hJA hSA hbA hbr
          by_cases hin : withinB (t k).at_ s.lo s.hi = true
          · have HIN := Lib.hid hin
            gi_wp2_with fail
            refine ⟨trivial, fun _ => by omega, (callsIn_wide.2 (within_any _ _ _ _)).mono ?_⟩
            rintro e wa ⟨rfl, rfl⟩
            have hlen := extL_length n t s k
            obtain ⟨fn, tmps, assign, body, hy, hRd⟩ := hY'.out (extL n t s k) ⟨(t k).value, 1⟩ _ HA.out (by omega)
            have hy : Sem.run Tryd.prog (Instr.yield l #[.agg #[.int .i64 (t k).value, .int .i64 1]]) (wr.alloc (.cells #[.int .i64 (t k).at_, .int .i64 (t k).value] 32)) = Result.ok (Next.round l fn tmps assign body) (wr.alloc (.cells #[.int .i64 (t k).at_, .int .i64 (t k).value] 32)) := hy
            gi_wp2
            refine ⟨fun _ => by omega, hRd.mono ?_⟩
            rintro e W8 (⟨rfl, hJ8, hk8⟩ | ⟨rfl, hJx8⟩)
            · clear hy hRd
              gi_wp2
              go_roundw
              case rel => exact ⟨k + 1, by omega, by go_num, by rw [extL_succ, if_pos HIN.out]; exact hJ8, HS.out.trans hk8⟩
              case measure => simp [intOf]; omega
            · gi_wp2
              refine bodyPost_ret (results_none rfl _ _ _) rfl ?_
              exact ⟨⟨_, rfl⟩, .inr ⟨extL n t s k ++ [⟨(t k).value, 1⟩], by
                have := extL_prefix n t s (k := k + 1) (m := n) (by omega)
                rwa [extL_succ, if_pos HIN.out] at this, hJx8⟩⟩
          · have HIN := Lib.hid hin
            replace hin : withinB (t k).at_ s.lo s.hi = false := by simpa using hin
            gi_wp2_with fail
            refine ⟨trivial, fun _ => by omega, (callsIn_wide.2 (within_any _ _ _ _)).mono ?_⟩
            rintro e wa ⟨rfl, rfl⟩
            gi_wp2
            refine ⟨fun _ h => (by cases h), ?_⟩
            gi_wp2
            go_roundw
            case rel => exact ⟨k + 1, by omega, by go_num, by rw [extL_succ, if_neg HIN.out]; exact HA.out, HS.out⟩
            case measure => simp [intOf]; omega
        · obtain rfl : k = n := by omega
          gi_wp2
          refine bodyPost_end (results_none rfl _ _ _) rfl ?_
          exact ⟨⟨_, rfl⟩, .inl ⟨_, rfl, hJr⟩⟩
    · gi_wp2
      refine bodyPost_ret (results_none rfl _ _ _) rfl ?_
      exact ⟨⟨_, rfl⟩, .inr ⟨[tabAt n t s.lo] ++ [tabAt n t s.hi], extL_prefix n t s (Nat.zero_le n), hJx4⟩⟩
  · gi_wp2
    refine ⟨trivial, ?_⟩
    gi_wp2
    refine ⟨fun _ h => (by cases h), ?_⟩
    gi_wp2
    refine bodyPost_ret (results_none rfl _ _ _) rfl ?_
    exact ⟨⟨_, rfl⟩, .inr ⟨[] ++ [tabAt n t s.lo], ⟨_, rfl⟩, hJx2⟩⟩
end Go.Proofs.YtlofopnjjeeehaaDoor.Bn
