/- Zone: the parts of a zone, one by one. -/
import Derived.Test.YtipnaeijbbbdoaaW3
import Derived.Test.YtipnaeijbbbdoaaRange3
import Derived.Laws.EntriesVeiled
import Derived.TacticsInMore
import Derived.RangeFuncNested
import Derived.LoopIn
import Derived.LoopNIn
namespace Go.Proofs.Ytipnaeijbbbdoaa
open Go.RowKit
attribute [local go_sem] Oper.semAt_some
set_option maxHeartbeats 400000 in
theorem parts_any (gt : Nat) (q : Int) (w : World) :
    Calls Try.prog 35 #[.pointer (some ⟨gt, 0, none⟩), .int .i64 q] w fun e w' => e = .returned (.func (.func 58) #[] #[.pointer (some ⟨w.heap.size, 0, none⟩), .pointer (some ⟨w.heap.size + 1, 0, none⟩)]) ∧ w' = (w.alloc (.cells #[.pointer (some ⟨gt, 0, none⟩)] 63)).alloc (.cells #[.int .i64 q] 3) := by
  go_enter Try.func35, Try.ntmps35
  go_wp2
  go_ret
  exact ⟨by simp, rfl⟩
/-- the parts of q among the first k zones -/
def kidsTo (z : Nat → Zon) (q : Int) (k : Nat) : List Nat := (List.range k).filter fun i => decide ((z i).p = q)
theorem kidsTo_some {z : Nat → Zon} {q : Int} {k : Nat} (h : (z k).p = q) : kidsTo z q (k + 1) = kidsTo z q k ++ [k] := by simp [kidsTo, List.range_succ, h]
theorem kidsTo_none {z : Nat → Zon} {q : Int} {k : Nat} (h : (z k).p ≠ q) : kidsTo z q (k + 1) = kidsTo z q k := by simp [kidsTo, List.range_succ, h]
theorem kidsTo_len (z : Nat → Zon) (q : Int) (k : Nat) : (kidsTo z q k).length ≤ k := by
  have := List.length_filter_le (fun i => decide ((z i).p = q)) (List.range k)
  simpa [kidsTo] using this
theorem mem_kidsTo {z : Nat → Zon} {q : Int} {k i : Nat} : i ∈ kidsTo z q k ↔ i < k ∧ (z i).p = q := by simp [kidsTo]
set_option maxRecDepth 100000 in
set_option maxHeartbeats 8000000 in
theorem parts_seq (oa : Option Addr) (n ca : Nat) (z : Nat → Zon) (gt b1 b2 : Nat) (q : Int) (tc : Array Value) (Pr : Nat → Prop) (w W0 : World) (hA : ZonsAt w oa n z) (hn : n ≤ 1000) (hPw : ∀ b, b < w.heap.size → Pr b) (hP2 : Pr b2) (hlow : Below w.heap.size w W0)
    (hx1 : Box b1 #[.pointer (some ⟨gt, 0, none⟩)] 63 W0) (hx2 : Box b2 #[.int .i64 q] 3 W0) (hxt : Box gt tc 66 W0) (htc : tc[0]? = some (.slice oa n ca)) (m : Nat) (hm : 4 ≤ m) :
    SeqQP m Try.prog 58 #[.pointer (some ⟨b1, 0, none⟩), .pointer (some ⟨b2, 0, none⟩)] (fun b : Nat => #[.int .i64 b]) Pr (fun xs => xs = kidsTo z q n) (fun xs => ∃ k : Nat, k < n ∧ (z k).p = q ∧ xs = kidsTo z q (k + 1)) (n + 1) W0 (fun c => c ∈ kidsTo z q n) := by
  intro l J Jx Jp W hW hJ hJx hY h0
  refine callsIn_of_wp Try.func58 rfl trivial ?_ rfl
  simp only [Try.ntmps58, List.size_toArray, List.length_cons, List.length_nil, Nat.reduceAdd, Nat.reduceSub, Array.replicate_succ, Array.replicate_zero, List.push_toArray, List.append_toArray, List.nil_append, List.cons_append]
  have HB2 := Lib.hid (show ∀ X, Same Pr W X → Box b2 #[.int .i64 q] 3 X from fun X hs => by
    have h9 := hx2.below hW
    exact ⟨(hs.block b2 h9.lt hP2).trans h9.row⟩)
  have HAX := Lib.hid (show ∀ X, Same Pr W X → ZonsAt X oa n z from fun X hs => hA.mono ((hlow.trans (hW.mono hlow.size)).trans (hs.below ((hlow.trans (hW.mono hlow.size)).size) fun k hk => hPw k hk)))
  have HX1 := Lib.hid (hx1.below hW)
  have HXT := Lib.hid (hxt.below hW)
  have HTC := Lib.hid htc
  have HY := Lib.hid hY
  have HJ := Lib.hid hJ
  have H0 := Lib.hid h0
  have c1 := HX1.out.cell 0 (v := .pointer (some ⟨gt, 0, none⟩)) rfl
  have ct := HXT.out.cell 0 HTC.out
  have lt := HXT.out.lt
  clear hW hJ hJx hY h0 hA hPw hP2 hlow hx1 hx2 hxt htc
  gi_wp2_with fail
  clear c1 ct lt
  gi_loopw [11] (fun v8 wr => ∃ k : Nat, k ≤ n ∧ v8 = .int .i64 k ∧ J (kidsTo z q k) wr ∧ Same Pr W wr) (fun v8 _ => n - (intOf v8).toNat)
  case atStart => exact ⟨0, Nat.zero_le _, rfl, H0.out, Same.refl _ _⟩
  case round =>
    obtain ⟨k, hkM, rfl, hJr, hSr⟩ := hrel
    have HJr := Lib.hid hJr
    have HSr := Lib.hid hSr
    clear hJr hSr
    refine wpIn_wide.2 ?_
    by_cases hlt : k < n
    · obtain ⟨zb, off, hoa, hl, c0, c1, c2, c3, c4, c5, c6, c7, c8⟩ := HAX.out wr HSr.out k hlt
      subst hoa
      have hx2 := HB2.out wr HSr.out
      have HK1 := Lib.hid (fun (h : (z k).p = q) => kidsTo_some h)
      have HK2 := Lib.hid (fun (h : (z k).p ≠ q) => kidsTo_none h)
      have HZK := Lib.hid (show (z k).p = (z k).p from rfl)
      obtain ⟨Z, hZ⟩ : ∃ Z, Z = z k := ⟨_, rfl⟩
      rw [← hZ] at c0 c1 c2 c3 c4 c5 c6 c7 c8 HK1 HK2 
      have HZ := Lib.hid hZ
      clear hZ HZK
      obtain ⟨⟨ilo, ihi⟩, ⟨mlo, mhi⟩, ⟨elo, ehi⟩, ⟨llo, lhi⟩, p⟩ := Z
      simp only at c0 c1 c2 c3 c4 c5 c6 c7 c8 HK1 HK2
      have hk0 : (0 : Int) ≤ (k : Int) := by omega
      have hk1 : (k : Int) < (n : Int) := by omega
      have cq := hx2.cell 0 (v := .int .i64 q) rfl
      have lq := hx2.lt
      clear hx2
      go_upto_region 3 with fail
      have hbl := below_alloc1 wr (.cells #[.int .i64 ilo, .int .i64 ihi, .int .i64 mlo, .int .i64 mhi, .int .i64 elo, .int .i64 ehi, .int .i64 llo, .int .i64 lhi, .int .i64 p] 48)
      have hbx := Box.new (g := wr.heap.size) #[.int .i64 ilo, .int .i64 ihi, .int .i64 mlo, .int .i64 mhi, .int .i64 elo, .int .i64 ehi, .int .i64 llo, .int .i64 lhi, .int .i64 p] 48 wr rfl
      obtain ⟨gz, hG⟩ : ∃ G, G = wr.heap.size := ⟨_, rfl⟩
      obtain ⟨w1, hW⟩ : ∃ X, X = wr.alloc (.cells #[.int .i64 ilo, .int .i64 ihi, .int .i64 mlo, .int .i64 mhi, .int .i64 elo, .int .i64 ehi, .int .i64 llo, .int .i64 lhi, .int .i64 p] 48) := ⟨_, rfl⟩
      rw [← hW] at hbl hbx ⊢
      rw [← hG] at hbx ⊢
      have HS2 := Lib.hid (HSr.out.trans (Same.of_below hbl fun q hq _ => hq))
      have HJ2 := Lib.hid (HJ.out _ _ _ HJr.out hbl)
      have HQ2 := Lib.hid (HB2.out _ HS2.out)
      have d8 := hbx.cell 8 (v := .int .i64 p) rfl
      have d9 := hbx.lt
      have cq2 := HQ2.out.cell 0 (v := .int .i64 q) rfl
      have lq2 := HQ2.out.lt
      clear hbl hbx hW hG c0 c1 c2 c3 c4 c5 c6 c7 c8 cq lq hl
      by_cases hpq : p = q
      · have E1 := Lib.hid (HK1.out hpq)
        have HPQ := Lib.hid (show (z k).p = q by rw [← HZ.out]; exact hpq)
        have hpq2 : (p == q) = true := by simp [hpq]
        clear HK1 HK2 hpq
        obtain ⟨fn, tmps, assign, body, hy, hRd⟩ := HY.out (kidsTo z q k) k w1 (mem_kidsTo.2 ⟨hlt, HPQ.out⟩) HJ2.out (by have := kidsTo_len z q k; omega)
        refine (wpIn_wide (n := m)).1 ?_
        gi_wp2
        refine ⟨fun _ => by omega, hRd.mono ?_⟩
        rintro e W8 (⟨rfl, hJ8, hk8⟩ | ⟨rfl, hJx8⟩ | ⟨ch, rfl, hJp⟩)
        · clear hy hRd
          have J8 := Lib.hid hJ8
          have K8 := Lib.hid (HS2.out.trans hk8)
          clear hJ8 hk8 d8 d9 cq2 lq2
          gi_wp2
          refine (show Code.wp Try.prog (Code.cond (Operand.tmp 25) Code.ret Code.skip) _ _ _ from ?_)
          go_wp2_with fail
          go_roundw
          case rel => exact ⟨k + 1, by omega, by go_num, by rw [E1.out]; exact J8.out, K8.out⟩
          case measure => simp [intOf]; omega
        · clear hy hRd
          gi_wp2
          refine (show Code.wp Try.prog (Code.cond (Operand.tmp 25) Code.ret Code.skip) _ _ _ from ?_)
          go_wp2_with fail
          refine bodyPost_ret (results_none rfl _ _ _) rfl (.inl ⟨⟨_, rfl⟩, .inr ⟨_, ⟨k, hlt, HPQ.out, E1.out.symm⟩, hJx8⟩⟩)
        · clear hy hRd
          gi_wp2
          refine And.intro rfl (Or.inr ?_)
          exact ⟨ch, rfl, kidsTo z q k ++ [k], ⟨k, hlt, HPQ.out, E1.out.symm⟩, hJp⟩
      · have E1 := Lib.hid (HK2.out hpq)
        have hpq2 : (p == q) = false := by simp [hpq]
        clear HK1 HK2 hpq
        go_wp2_with fail
        go_roundw
        case rel => exact ⟨k + 1, by omega, by go_num, by rw [E1.out]; exact HJ2.out, HS2.out⟩
        case measure => simp [intOf]; omega
    · obtain rfl : k = n := by omega
      go_wp2_with fail
      refine bodyPost_end (results_none rfl _ _ _) rfl (.inl ⟨⟨_, rfl⟩, .inl (by first | exact HJr.out | exact ⟨_, rfl, HJr.out⟩)⟩)
end Go.Proofs.Ytipnaeijbbbdoaa
