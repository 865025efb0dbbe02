/- guesses yields the sets that fit, with their leaks. -/
import Derived.Test.YtmeeknmjhlfnaaaDoorSeqP
import Derived.Test.YtmeeknmjhlfnaaaDoorP1
import Derived.Test.YtmeeknmjhlfnaaaDoorRange2
import Derived.RangeFuncNested
import Derived.Scope
import Derived.LoopIn
import Derived.LoopNIn
namespace Go.Proofs.YtmeeknmjhlfnaaaDoor
open Go.RowKit
abbrev Gs.val (g : Gs) : Value := .agg #[.int .i64 g.p.a.lo, .int .i64 g.p.a.hi, .int .i64 g.p.b.lo, .int .i64 g.p.b.hi, .int .i64 g.p.c.lo, .int .i64 g.p.c.hi, .int .i64 (g.x : Nat), .int .i64 (sizeN g.x : Nat)]
/-- what the iterator reads -/
structure It (bx gt gv : Nat) (t : Tst) (oa : Option Addr) (ca : Nat) (ob : Option Addr) (cb : Nat) (or : Option Addr) (cr : Nat) (W : World) : Prop where
  hb : Box bx #[.pointer (some ⟨gt, 0, none⟩)] 60 W
  ht : Box gt #[.slice oa t.n ca, .int .i64 t.leaks, .int .i64 t.least, .slice ob t.m cb, .slice or t.m cr] 73 W
  hr : StpsAt W or t.m t.rest
  hT : TabAt 1 Lib.deBruijn64tab W
  h1 : 1 < W.heap.size
  n1 : bx ≠ gv
  n2 : gt ≠ gv
  n3 : ∀ a, 0 < t.m → or = some a → a.block ≠ gv
  n4 : 1 ≠ gv
theorem It.on {bx gt gv : Nat} {t : Tst} {oa : Option Addr} {ca : Nat} {ob : Option Addr} {cb : Nat} {or : Option Addr} {cr : Nat} {S : Nat} {W W' : World} (h : It bx gt gv t oa ca ob cb or cr W) (hs : Same (fun b => b < S ∧ b ≠ gv) W W') (hS : W.heap.size ≤ S) : It bx gt gv t oa ca ob cb or cr W' := by
  have kb : ∀ g, g < W.heap.size → g ≠ gv → W'.heap[g]? = W.heap[g]? := fun g hg hn => hs.block g hg ⟨by omega, hn⟩
  refine ⟨⟨(kb bx h.hb.lt h.n1).trans h.hb.row⟩, ⟨(kb gt h.ht.lt h.n2).trans h.ht.row⟩, fun i hi => ?_, fun j hj => ?_, Nat.lt_of_lt_of_le h.h1 hs.size, h.n1, h.n2, h.n3, h.n4⟩
  · obtain ⟨b, o, e, lt, c0, c1, c2⟩ := h.hr i hi
    have k := kb b lt (h.n3 _ (by omega) e)
    exact ⟨b, o, e, Nat.lt_of_lt_of_le lt hs.size, (World.cell?_of_block (a := ⟨b, o + i * 3, none⟩) k).trans c0, (World.cell?_of_block (a := ⟨b, o + i * 3 + 1, none⟩) k).trans c1, (World.cell?_of_block (a := ⟨b, o + i * 3 + 1 + 1, none⟩) k).trans c2⟩
  · exact (World.cell?_of_block (a := ⟨1, j, none⟩) (kb 1 h.h1 h.n4)).trans (h.hT j hj)
theorem It.below {bx gt gv : Nat} {t : Tst} {oa : Option Addr} {ca : Nat} {ob : Option Addr} {cb : Nat} {or : Option Addr} {cr : Nat} {W W' : World} (h : It bx gt gv t oa ca ob cb or cr W) (hb : Below W.heap.size W W') : It bx gt gv t oa ca ob cb or cr W' := h.on (S := W.heap.size) (Same.of_below hb fun _ hk _ => hk) (Nat.le_refl _)
theorem onesN_le (x : Nat) : ∀ k, onesN x k ≤ k
  | 0 => Nat.le_refl _
  | k + 1 => by
    have := onesN_le x k
    unfold onesN
    split <;> omega
theorem sizeN_le (x : Nat) : sizeN x ≤ 10 := onesN_le x 10
theorem gK_none {t : Tst} {x k : Nat} (h : gK t x k = none) : ∀ d, gK t x (k + d) = none
  | 0 => h
  | d + 1 => by
    show (gK t x (k + d)).bind _ = none
    rw [gK_none h d]; rfl
theorem gK_stop {t : Tst} {x i : Nat} (hi : i < t.m) (h : gK t x (i + 1) = none) : gK t x t.m = none := by
  have := gK_none h (t.m - (i + 1))
  rwa [show i + 1 + (t.m - (i + 1)) = t.m by omega] at this
/-- what comes up -/
def Gs.of (t : Tst) (g : Gs) : Prop := g.x < 2 ^ t.n ∧ gR t g.x = some g.p
set_option maxRecDepth 100000 in
set_option maxHeartbeats 16000000 in
theorem gs_seq (t : Tst) (hk : t.Ok) (bx gt gv : Nat) (oa : Option Addr) (ca : Nat) (ob : Option Addr) (cb : Nat) (or : Option Addr) (cr : Nat) (W0 : World) (h : It bx gt gv t oa ca ob cb or cr W0) (m : Nat) (hm : 9 ≤ m) :
    SeqP Fence.wide m Tryd.prog 28 #[.pointer (some ⟨bx, 0, none⟩)] (fun g : Gs => #[g.val]) (fun b => b < W0.heap.size ∧ b ≠ gv) (fun xs => xs = gL t (2 ^ t.n)) (fun _ => True) 1025 W0 (Gs.of t) := by
  intro l J Jx W hW hJ hJx hY h0
  refine callsIn_of_wp Tryd.func28 rfl trivial ?_ rfl
  simp only [Tryd.ntmps28, List.size_toArray, List.length_cons, List.length_nil, Nat.reduceAdd, Nat.reduceSub, Array.replicate_succ, Array.replicate_zero, List.push_toArray, List.append_toArray, List.nil_append, List.cons_append]
  have HY := Lib.hid hY
  have HK := Lib.hid hk
  have HI := Lib.hid h
  have HI1 := Lib.hid (h.on hW (Nat.le_refl _))
  have HW := Lib.hid hW
  have HJ := Lib.hid hJ
  have HJX := Lib.hid hJx
  have hn1 := hk.n1
  have hn2 := hk.n2
  have hm2 := hk.m1
  clear hY hk h hW hJ hJx
  have c0 := HI1.out.hb.cell 0 (v := .pointer (some ⟨gt, 0, none⟩)) rfl
  have c1 := HI1.out.hb.lt
  have c2 := HI1.out.ht.cell 0 (v := .slice oa t.n ca) rfl
  have c3 := HI1.out.ht.lt
  refine wpIn_wide.2 (wp_scope_straight ((wpIn_wide (n := m)).1 ?_))
  refine wpIn_seq (wpIn_label ?_)
  dsimp only [Exit.then]
  gi_wp2_with fail
  rw [pow_wrap hn2]
  have hM10 := pow_ten hn2
  obtain ⟨M, hM⟩ : ∃ M, M = 2 ^ t.n := ⟨_, rfl⟩
  rw [← hM] at hM10 ⊢
  have HM := Lib.hid hM
  clear hM c0 c1 c2 c3
  gi_loopw [18] (fun v18 wr => ∃ k : Nat, k ≤ M ∧ v18 = .int .i64 k ∧ J (gL t k) wr ∧ Same (fun b => b < W0.heap.size ∧ b ≠ gv) W0 wr) (fun v18 _ => M - (intOf v18).toNat)
  case atStart => exact ⟨0, Nat.zero_le _, rfl, h0, HW.out⟩
  case round =>
    obtain ⟨k, hkM, rfl, hJr, hSr⟩ := hrel
    have HJr := Lib.hid hJr
    have HSr := Lib.hid hSr
    have HIr := Lib.hid (HI.out.on hSr (Nat.le_refl _))
    clear hJr hSr
    refine wpIn_wide.2 ?_
    by_cases hlt : k < M
    · have hd0 : decide (k < M) = true := by simpa using hlt
      have c0 := HIr.out.hb.cell 0 (v := .pointer (some ⟨gt, 0, none⟩)) rfl
      have c1 := HIr.out.hb.lt
      have d0 := HIr.out.ht.cell 0 (v := .slice oa t.n ca) rfl
      have d1 := HIr.out.ht.cell 1 (v := .int .i64 t.leaks) rfl
      have d2 := HIr.out.ht.cell 2 (v := .int .i64 t.least) rfl
      have d4 := HIr.out.ht.cell 4 (v := .slice or t.m cr) rfl
      have d5 := HIr.out.ht.lt
      go_wp2_with fail
      refine (ones_any k (by omega) _).mono ?_
      rintro e wr ⟨rfl, rfl⟩
      have hz9 : sizeN k ≤ 10 := sizeN_le k
      have ER := Lib.hid (show gR t k = if t.leaks < (sizeN k : Nat) then none else (gK t k t.m).bind fun p => if (narrowI k p).can then some (narrowI k p) else none from rfl)
      have EN := Lib.hid (show ∀ p, narrowI k p = if sizeN k = 2 then p.narrow else p from fun _ => rfl)
      generalize hzz : sizeN k = z at *
      have HZZ := Lib.hid hzz
      clear hzz
      by_cases hz : t.leaks < (z : Int)
      · have hd1 : decide (t.leaks < (z : Int)) = true := by simpa using hz
        have E1 := Lib.hid (gL_none (show gR t k = none by rw [ER.out, if_pos hz]))
        clear hz
        go_wp2_with fail
        go_roundw
        case rel => exact ⟨k + 1, by omega, by go_num, by rw [E1.out]; exact HJr.out, HSr.out⟩
        case measure => simp [intOf]; omega
      · have hd1 : decide (t.leaks < (z : Int)) = false := by simpa using hz
        have ER2 := Lib.hid (show gR t k = (gK t k t.m).bind fun p => if (narrowI k p).can then some (narrowI k p) else none by rw [ER.out, if_neg hz])
        clear hz
        go_wp2_with fail
        obtain ⟨Ws, hWs⟩ : ∃ X, X = wr := ⟨_, rfl⟩
        have hbE : Below wr.heap.size wr ((wr.alloc (.cells #[.int .i64 t.least, .int .i64 1073741824] 34)).alloc (.cells #[.int .i64 t.least, .int .i64 1073741824, .int .i64 t.least, .int .i64 1073741824, .int .i64 0, .int .i64 2147483648, .int .i64 (k : Nat), .int .i64 (z : Nat)] 69)) := (by repeat' (first | exact Below.refl _ _ | assumption | apply below_drewN | apply Below.drew | (refine Below.alloc ?_ ?_ _) | (refine Below.setCell ?_ ?_ _) | (simp; done) | (simp; omega) | omega))
        have z6 := Box.new (g := wr.heap.size + 1) #[.int .i64 t.least, .int .i64 1073741824, .int .i64 t.least, .int .i64 1073741824, .int .i64 0, .int .i64 2147483648, .int .i64 (k : Nat), .int .i64 (z : Nat)] 69 (wr.alloc (.cells #[.int .i64 t.least, .int .i64 1073741824] 34)) (by simp)
        obtain ⟨q, hq⟩ : ∃ q, q = wr.heap.size + 1 := ⟨_, rfl⟩
        obtain ⟨W3, hW3⟩ : ∃ X, X = ((wr.alloc (.cells #[.int .i64 t.least, .int .i64 1073741824] 34)).alloc (.cells #[.int .i64 t.least, .int .i64 1073741824, .int .i64 t.least, .int .i64 1073741824, .int .i64 0, .int .i64 2147483648, .int .i64 (k : Nat), .int .i64 (z : Nat)] 69)) := ⟨_, rfl⟩
        rw [← hq] at z6 ⊢
        rw [← hW3] at hbE z6 ⊢
        rw [← hWs] at HJr HSr HIr hbE hq ⊢
        have hqs : Ws.heap.size ≤ q := by omega
        have HZ6 := Lib.hid z6
        have HB6 := Lib.hid hbE
        clear hW3 hWs hq z6 hbE c0 c1 d0 d1 d2 d4 d5
        go_loopw [49] (fun v49 wr => ∃ i : Nat, i ≤ t.m ∧ v49 = .int .i64 i ∧ ∃ p, gK t k i = some p ∧ Box q #[.int .i64 p.a.lo, .int .i64 p.a.hi, .int .i64 p.b.lo, .int .i64 p.b.hi, .int .i64 p.c.lo, .int .i64 p.c.hi, .int .i64 (k : Nat), .int .i64 (z : Nat)] 69 wr ∧ Below Ws.heap.size Ws wr) (fun i _ => t.m - (intOf i).toNat)
        case atStart => exact ⟨0, Nat.zero_le _, rfl, anyP t.least, rfl, HZ6.out, HB6.out⟩
        case round =>
          obtain ⟨i, hi, rfl, p, hgk, hz6, hbs⟩ := hrel
          have HGK := Lib.hid hgk
          have Z6 := Lib.hid hz6
          have BS := Lib.hid hbs
          have IT := Lib.hid (HIr.out.below hbs)
          clear hgk hz6 hbs
          by_cases hlti : i < t.m
          · have hd2 : decide (i < t.m) = true := by simpa using hlti
            have hi0 : (0 : Int) ≤ (i : Int) := by omega
            have hi1 : (i : Int) < (t.m : Int) := by omega
            obtain ⟨br, bo, rfl, lr, r0, r1, r2⟩ := IT.out.hr i hlti
            go_wp2_with fail
            have hx := Nat.lt_of_lt_of_le (HK.out.s1 i hlti) (pow_ten hn2)
            refine (openOf_any k (by omega) wr.heap.size wr.heap.size (wr.heap.size + 1) (wr.heap.size + 1 + 1) (t.rest i) wr _ ⟨(by repeat' (first | exact Below.refl _ _ | assumption | apply below_drewN | apply Below.drew | (refine Below.alloc ?_ ?_ _) | (refine Below.setCell ?_ ?_ _) | (simp; done) | (simp; omega) | omega)), ((Box.new _ 75 wr rfl).old _).old _, (Box.new _ 3 _ (by simp)).old _, Box.new _ 3 _ (by simp)⟩ (HK.out.s0 i hlti) hx (by omega) (by omega) (by omega) (by omega) (by omega) IT.out.h1 IT.out.hT).mono ?_
            rintro e w5 ⟨⟨v5, rfl⟩, ql, z8, z9, z10⟩
            have EG := Lib.hid (show gK t k (i + 1) = cutO k (t.rest i) p from by unfold gK; rw [HGK.out]; rfl)
            obtain ⟨r, hr⟩ : ∃ r, r = t.rest i := ⟨_, rfl⟩
            have hst := opSt_le (t.rest i).shut.toNat (stL k)
            have hsl := st_len k
            rw [← hr] at z8 z9 z10 EG hst
            have EC := Lib.hid (show cutO k r p = _ from by unfold cutO; rfl)
            obtain ⟨OS, hOS⟩ : ∃ OS, OS = opSt r.shut.toNat (stL k) := ⟨_, rfl⟩
            rw [← hOS] at z9 z10 EC hst
            obtain ⟨o, qq⟩ := OS
            dsimp only at z9 z10 EC hst
            have Z9 := Lib.hid z9
            have Z10 := Lib.hid z10
            have Z8 := Lib.hid z8
            have ZQ := Lib.hid (Z6.out.below ql)
            have B5 : Below Ws.heap.size Ws w5 := BS.out.trans (ql.mono BS.out.size)
            have HB5 := Lib.hid B5
            have hsz5 := Z10.out.lt
            have e0 := Z8.out.cell 1 (v := .int .i64 r.flow.lo) rfl
            have e1 := Z8.out.cell 2 (v := .int .i64 r.flow.hi) rfl
            have e2 := Z9.out.cell 0 (v := .int .i64 (o : Nat)) rfl
            have e3 := Z10.out.cell 0 (v := .int .i64 (qq : Nat)) rfl
            have e4 := Z8.out.lt
            have e5 := Z9.out.lt
            have e6 := ZQ.out.lt
            have e7 := ZQ.out.cell 0 (v := .int .i64 p.a.lo) rfl
            have e8 := ZQ.out.cell 1 (v := .int .i64 p.a.hi) rfl
            have e9 := ZQ.out.cell 2 (v := .int .i64 p.b.lo) rfl
            have e10 := ZQ.out.cell 3 (v := .int .i64 p.b.hi) rfl
            have e11 := ZQ.out.cell 4 (v := .int .i64 p.c.lo) rfl
            have e12 := ZQ.out.cell 5 (v := .int .i64 p.c.hi) rfl
            clear hr hOS r0 r1 r2 lr ql z8 z9 z10 B5
            by_cases hbad : o = 0 ∧ (0 < r.flow.lo ∨ r.flow.hi < 0)
            · have ER3 := Lib.hid (gL_none (show gR t k = none by
                have e9 : gK t k t.m = none := gK_stop hlti (by rw [EG.out, EC.out, if_pos hbad])
                rw [ER2.out, e9]; rfl))
              obtain ⟨rfl, hbad⟩ := hbad
              by_cases hlo : 0 < r.flow.lo
              · have f0 : decide (0 < r.flow.lo) = true := by simpa using hlo
                clear hlo hbad
                go_wp2_with fail
                go_roundw
                case rel => exact ⟨k + 1, by omega, by go_num, by rw [ER3.out]; exact HJ.out _ _ _ HJr.out HB5.out, (HSr.out.trans (Same.of_below HB5.out fun _ hk _ => hk))⟩
                case measure => simp [intOf]; omega
              · have f0 : decide (0 < r.flow.lo) = false := by simpa using hlo
                have f1 : decide (r.flow.hi < 0) = true := by have := hbad.resolve_left hlo; simpa using this
                clear hlo hbad
                go_wp2_with fail
                go_roundw
                case rel => exact ⟨k + 1, by omega, by go_num, by rw [ER3.out]; exact HJ.out _ _ _ HJr.out HB5.out, (HSr.out.trans (Same.of_below HB5.out fun _ hk _ => hk))⟩
                case measure => simp [intOf]; omega
            · have EC2 := Lib.hid (show gK t k (i + 1) = _ from EG.out.trans (EC.out.trans (if_neg hbad)))
              have EB := Lib.hid hbad
              clear hbad
              by_cases ho2 : o = 2
              · subst ho2
                have EC3 := Lib.hid (show gK t k (i + 1) = some { p with c := cutS p.c r.flow } from EC2.out.trans (if_pos rfl))
                go_wp2_with fail
                refine (cut_any p.c r.flow (some ⟨w5.heap.size, 0, none⟩) 1 _ (fun j hj => ⟨_, 0, rfl, by simp, by obtain rfl : j = 0 := (by omega); exact (Box.new _ _ _ rfl).cell 0 rfl, by obtain rfl : j = 0 := (by omega); exact (Box.new _ _ _ rfl).cell 1 rfl⟩)).mono ?_
                rintro e w6 ⟨rfl, hb6⟩
                obtain ⟨sp, hsp⟩ : ∃ sp, sp = cutS p.c r.flow := ⟨_, rfl⟩
                rw [← hsp] at EC3 ⊢
                have zq6 := (ZQ.out.old _).below hb6
                have B6 : Below Ws.heap.size Ws w6 := (HB5.out.alloc (by have := HB5.out.size; omega) _).trans (hb6.mono (by have := HB5.out.size; simp; omega))
                have ZQ6 := Lib.hid zq6
                have HB6' := Lib.hid B6
                have g0 := zq6.lt
                have g1 := zq6.cell 4 (v := .int .i64 p.c.lo) rfl
                have g2 := zq6.cell 5 (v := .int .i64 p.c.hi) rfl
                have g3 := zq6.frozen 4
                have g4 := zq6.frozen 5
                clear zq6 B6 hb6 hsp e0 e1 e2 e3 e4 e5 e6 e7 e8 e9 e10 e11 e12
                go_wp2_with fail
                go_roundw
                case rel => exact ⟨i + 1, by omega, by go_num, _, EC3.out, (ZQ6.out.set 4 _).set 5 _, (HB6'.out.setCell (p := ⟨q, 4, none⟩) hqs _).setCell (p := ⟨q, 5, none⟩) hqs _⟩
                case measure => simp [intOf]; omega
              · by_cases ho1 : o = 1
                · subst ho1
                  by_cases hq0 : qq = 0
                  · subst hq0
                    have EC3 := Lib.hid (show gK t k (i + 1) = some { p with a := cutS p.a r.flow } from EC2.out.trans ((if_neg ho2).trans (if_pos ⟨rfl, rfl⟩)))
                    clear ho2
                    go_wp2_with fail
                    refine (cut_any p.a r.flow (some ⟨w5.heap.size, 0, none⟩) 1 _ (fun j hj => ⟨_, 0, rfl, by simp, by obtain rfl : j = 0 := (by omega); exact (Box.new _ _ _ rfl).cell 0 rfl, by obtain rfl : j = 0 := (by omega); exact (Box.new _ _ _ rfl).cell 1 rfl⟩)).mono ?_
                    rintro e w6 ⟨rfl, hb6⟩
                    obtain ⟨sp, hsp⟩ : ∃ sp, sp = cutS p.a r.flow := ⟨_, rfl⟩
                    rw [← hsp] at EC3 ⊢
                    have zq6 := (ZQ.out.old _).below hb6
                    have B6 : Below Ws.heap.size Ws w6 := (HB5.out.alloc (by have := HB5.out.size; omega) _).trans (hb6.mono (by have := HB5.out.size; simp; omega))
                    have ZQ6 := Lib.hid zq6
                    have HB6' := Lib.hid B6
                    have g0 := zq6.lt
                    have g1 := zq6.cell 0 (v := .int .i64 p.a.lo) rfl
                    have g2 := zq6.cell 1 (v := .int .i64 p.a.hi) rfl
                    have g3 := zq6.frozen 0
                    have g4 := zq6.frozen 1
                    clear zq6 B6 hb6 hsp e0 e1 e2 e3 e4 e5 e6 e7 e8 e9 e10 e11 e12
                    go_wp2_with fail
                    go_roundw
                    case rel => exact ⟨i + 1, by omega, by go_num, _, EC3.out, (ZQ6.out.set 0 _).set 1 _, (HB6'.out.setCell (p := ⟨q, 0, none⟩) hqs _).setCell (p := ⟨q, 1, none⟩) hqs _⟩
                    case measure => simp [intOf]; omega
                  · have f0 : ((qq : Int) == 0) = false := by simp; omega
                    have EC3 := Lib.hid (show gK t k (i + 1) = some { p with b := cutS p.b r.flow } from EC2.out.trans ((if_neg ho2).trans ((if_neg (fun h => hq0 h.2)).trans (if_pos rfl))))
                    clear ho2 hq0
                    go_wp2_with fail
                    refine (cut_any p.b r.flow (some ⟨w5.heap.size, 0, none⟩) 1 _ (fun j hj => ⟨_, 0, rfl, by simp, by obtain rfl : j = 0 := (by omega); exact (Box.new _ _ _ rfl).cell 0 rfl, by obtain rfl : j = 0 := (by omega); exact (Box.new _ _ _ rfl).cell 1 rfl⟩)).mono ?_
                    rintro e w6 ⟨rfl, hb6⟩
                    obtain ⟨sp, hsp⟩ : ∃ sp, sp = cutS p.b r.flow := ⟨_, rfl⟩
                    rw [← hsp] at EC3 ⊢
                    have zq6 := (ZQ.out.old _).below hb6
                    have B6 : Below Ws.heap.size Ws w6 := (HB5.out.alloc (by have := HB5.out.size; omega) _).trans (hb6.mono (by have := HB5.out.size; simp; omega))
                    have ZQ6 := Lib.hid zq6
                    have HB6' := Lib.hid B6
                    have g0 := zq6.lt
                    have g1 := zq6.cell 2 (v := .int .i64 p.b.lo) rfl
                    have g2 := zq6.cell 3 (v := .int .i64 p.b.hi) rfl
                    have g3 := zq6.frozen 2
                    have g4 := zq6.frozen 3
                    clear zq6 B6 hb6 hsp e0 e1 e2 e3 e4 e5 e6 e7 e8 e9 e10 e11 e12
                    go_wp2_with fail
                    go_roundw
                    case rel => exact ⟨i + 1, by omega, by go_num, _, EC3.out, (ZQ6.out.set 2 _).set 3 _, (HB6'.out.setCell (p := ⟨q, 2, none⟩) hqs _).setCell (p := ⟨q, 3, none⟩) hqs _⟩
                    case measure => simp [intOf]; omega
                · have EC3 := Lib.hid (show gK t k (i + 1) = some p from EC2.out.trans ((if_neg ho2).trans ((if_neg (fun h => ho1 h.1)).trans (if_neg ho1))))
                  have f1 : ((o : Int) == 1) = false := by simp; omega
                  have f2 : ((o : Int) == 2) = false := by simp; omega
                  by_cases ho0 : o = 0
                  · subst ho0
                    have f3 : decide (0 < r.flow.lo) = false := by
                      have := EB.out; simp at this ⊢; omega
                    have f4 : decide (r.flow.hi < 0) = false := by
                      have := EB.out; simp at this ⊢; omega
                    go_wp2_with fail
                    go_roundw
                    case rel => exact ⟨i + 1, by omega, by go_num, p, EC3.out, ZQ.out, HB5.out⟩
                    case measure => simp [intOf]; omega
                  · have f3 : ((o : Int) == 0) = false := by simp; omega
                    clear ho0 ho1 ho2
                    go_wp2_with fail
                    go_roundw
                    case rel => exact ⟨i + 1, by omega, by go_num, p, EC3.out, ZQ.out, HB5.out⟩
                    case measure => simp [intOf]; omega
          · obtain rfl : i = t.m := by omega
            have hd2 : decide (t.m < t.m) = false := by simp
            have hsm := gK_small HK.out (Nat.le_refl _) HGK.out
            have HSM := Lib.hid hsm
            clear hsm
            have e0 := Z6.out.cell 0 (v := .int .i64 p.a.lo) rfl
            have e1 := Z6.out.cell 1 (v := .int .i64 p.a.hi) rfl
            have e2 := Z6.out.cell 2 (v := .int .i64 p.b.lo) rfl
            have e3 := Z6.out.cell 3 (v := .int .i64 p.b.hi) rfl
            have e4 := Z6.out.cell 4 (v := .int .i64 p.c.lo) rfl
            have e5 := Z6.out.cell 5 (v := .int .i64 p.c.hi) rfl
            have e6 := Z6.out.lt
            by_cases hz2 : z = 2
            · have hd3 : ((z : Int) == 2) = true := by simp; omega
              have EN2 := Lib.hid (show narrowI k p = p.narrow from by rw [EN.out, if_pos hz2])
              have ER3 := Lib.hid (show gR t k = if p.narrow.can then some p.narrow else none from by rw [ER2.out, HGK.out]; simp only [Option.bind]; rw [EN2.out])
              clear hz2
              go_wp2_with fail
              refine (narrow_any p _ (fun s hs => ?_)).mono ?_
              · have h9 := HSM.out
                unfold Pr.small Spn.small at h9
                rcases hs with rfl | rfl | rfl <;> omega
              rintro e w5 ⟨rfl, hb5⟩
              generalize p.narrow = pn at *
              have zq5 := Z6.out.below hb5
              have B5 : Below Ws.heap.size Ws w5 := BS.out.trans (hb5.mono BS.out.size)
              have ZQ5 := Lib.hid zq5
              have HB5 := Lib.hid B5
              have g0 := zq5.lt
              have f0 := zq5.frozen 0
              have f1 := zq5.frozen 1
              have f2 := zq5.frozen 2
              have f3 := zq5.frozen 3
              have f4 := zq5.frozen 4
              have f5 := zq5.frozen 5
              have g1 := zq5.cell 0 (v := .int .i64 p.a.lo) rfl
              have g2 := zq5.cell 1 (v := .int .i64 p.a.hi) rfl
              have g3 := zq5.cell 2 (v := .int .i64 p.b.lo) rfl
              have g4 := zq5.cell 3 (v := .int .i64 p.b.hi) rfl
              have g5 := zq5.cell 4 (v := .int .i64 p.c.lo) rfl
              have g6 := zq5.cell 5 (v := .int .i64 p.c.hi) rfl
              clear e0 e1 e2 e3 e4 e5 e6 zq5 B5 hb5
              go_upto_region 22 with fail
              have z6 : Box q #[.int .i64 pn.a.lo, .int .i64 pn.a.hi, .int .i64 pn.b.lo, .int .i64 pn.b.hi, .int .i64 pn.c.lo, .int .i64 pn.c.hi, .int .i64 (k : Nat), .int .i64 (z : Nat)] 69 _ := (((((ZQ5.out.set 0 (.int .i64 pn.a.lo)).set 1 (.int .i64 pn.a.hi)).set 2 (.int .i64 pn.b.lo)).set 3 (.int .i64 pn.b.hi)).set 4 (.int .i64 pn.c.lo)).set 5 (.int .i64 pn.c.hi)
              have b6 := (((((HB5.out.setCell (p := ⟨q, 0, none⟩) hqs (.int .i64 pn.a.lo)).setCell (p := ⟨q, 1, none⟩) hqs (.int .i64 pn.a.hi)).setCell (p := ⟨q, 2, none⟩) hqs (.int .i64 pn.b.lo)).setCell (p := ⟨q, 3, none⟩) hqs (.int .i64 pn.b.hi)).setCell (p := ⟨q, 4, none⟩) hqs (.int .i64 pn.c.lo)).setCell (p := ⟨q, 5, none⟩) hqs (.int .i64 pn.c.hi)
              obtain ⟨w6, hw6⟩ : ∃ X, X = ((((((w5.setCell ⟨q, 0, none⟩ (.int .i64 pn.a.lo)).setCell ⟨q, 1, none⟩ (.int .i64 pn.a.hi)).setCell ⟨q, 2, none⟩ (.int .i64 pn.b.lo)).setCell ⟨q, 3, none⟩ (.int .i64 pn.b.hi)).setCell ⟨q, 4, none⟩ (.int .i64 pn.c.lo)).setCell ⟨q, 5, none⟩ (.int .i64 pn.c.hi)) := ⟨_, rfl⟩
              rw [← hw6] at z6 b6 ⊢
              have ZT := Lib.hid z6
              have BT := Lib.hid b6
              have e0 := z6.cell 0 (v := .int .i64 pn.a.lo) rfl
              have e1 := z6.cell 1 (v := .int .i64 pn.a.hi) rfl
              have e2 := z6.cell 2 (v := .int .i64 pn.b.lo) rfl
              have e3 := z6.cell 3 (v := .int .i64 pn.b.hi) rfl
              have e4 := z6.cell 4 (v := .int .i64 pn.c.lo) rfl
              have e5 := z6.cell 5 (v := .int .i64 pn.c.hi) rfl
              have e6 := z6.lt
              clear hw6 z6 b6 f0 f1 f2 f3 f4 f5 g0 g1 g2 g3 g4 g5 g6
              go_wp2_with fail
              refine (can_any pn _).mono ?_
              rintro e w7 ⟨rfl, hb7⟩
              have zq7 := ZT.out.below hb7
              have B7 : Below Ws.heap.size Ws w7 := BT.out.trans (hb7.mono BT.out.size)
              have ZQ7 := Lib.hid zq7
              have HB7 := Lib.hid B7
              clear zq7 B7 hb7
              cases hcan : pn.can
              · have E1 := Lib.hid (gL_none (show gR t k = none by rw [ER3.out, hcan]; rfl))
                clear hcan
                go_wp2_with fail
                go_roundw
                case rel => exact ⟨k + 1, by omega, by go_num, by rw [E1.out]; exact HJ.out _ _ _ HJr.out HB7.out, (HSr.out.trans (Same.of_below HB7.out fun _ hk _ => hk))⟩
                case measure => simp [intOf]; omega
              · have EP := Lib.hid (show gR t k = some pn by rw [ER3.out, hcan]; rfl)
                have E1 := Lib.hid (gL_some EP.out)
                clear hcan
                have d0 := ZQ7.out.cell 0 (v := .int .i64 pn.a.lo) rfl
                have d1 := ZQ7.out.cell 1 (v := .int .i64 pn.a.hi) rfl
                have d2 := ZQ7.out.cell 2 (v := .int .i64 pn.b.lo) rfl
                have d3 := ZQ7.out.cell 3 (v := .int .i64 pn.b.hi) rfl
                have d4 := ZQ7.out.cell 4 (v := .int .i64 pn.c.lo) rfl
                have d5 := ZQ7.out.cell 5 (v := .int .i64 pn.c.hi) rfl
                have d6 := ZQ7.out.cell 6 (v := .int .i64 (k : Nat)) rfl
                have d7 := ZQ7.out.cell 7 (v := .int .i64 (z : Nat)) rfl
                have d8 := ZQ7.out.lt
                go_upto_region 23 with fail
                refine (wpIn_wide (n := m)).1 ?_
                obtain ⟨fn, tmps, assign, body, hy, hRd⟩ := HY.out (gL t k) ⟨pn, k⟩ w7 ⟨(show k < 2 ^ t.n by rw [← HM.out]; exact hlt), EP.out⟩ (HJ.out _ _ _ HJr.out HB7.out) (by have := gL_length t k; omega)
                have hy : Sem.run Tryd.prog (Instr.yield l #[.agg #[.int .i64 pn.a.lo, .int .i64 pn.a.hi, .int .i64 pn.b.lo, .int .i64 pn.b.hi, .int .i64 pn.c.lo, .int .i64 pn.c.hi, .int .i64 (k : Nat), .int .i64 (z : Nat)]]) w7 = Result.ok (Next.round l fn tmps assign body) w7 := by rw [← HZZ.out]; exact hy
                gi_wp2
                refine ⟨fun _ => by omega, hRd.mono ?_⟩
                rintro e W8 (⟨rfl, hJ8, hk8⟩ | ⟨rfl, hJx8⟩)
                · clear hy hRd
                  have J8 := Lib.hid hJ8
                  have K8 := Lib.hid hk8
                  clear hJ8 hk8
                  gi_wp2
                  refine (show Code.wp Tryd.prog (Code.cond (Operand.tmp 125) Code.ret Code.skip) _ _ _ from ?_)
                  go_wp2_with fail
                  go_roundw
                  case rel => exact ⟨k + 1, by omega, by go_num, by rw [E1.out]; exact J8.out, ((HSr.out.trans (Same.of_below HB7.out fun _ hk _ => hk)).trans K8.out)⟩
                  case measure => simp [intOf]; omega
                · clear hy hRd
                  gi_wp2
                  refine (show Code.wp Tryd.prog (Code.cond (Operand.tmp 125) Code.ret Code.skip) _ _ _ from ?_)
                  go_wp2_with fail
                  dsimp only [Exit.noGoto]
                  refine bodyPost_ret (results_none rfl _ _ _) rfl ?_
                  exact ⟨⟨_, rfl⟩, .inr ⟨_, hJx8⟩⟩
            · have hd3 : ((z : Int) == 2) = false := by simp; omega
              have EN2 := Lib.hid (show narrowI k p = p from by rw [EN.out, if_neg hz2])
              have ER3 := Lib.hid (show gR t k = if p.can then some p else none from by rw [ER2.out, HGK.out]; simp only [Option.bind]; rw [EN2.out])
              clear hz2
              go_wp2_with fail
              refine (can_any p _).mono ?_
              rintro e w7 ⟨rfl, hb7⟩
              have zq7 := Z6.out.below hb7
              have B7 : Below Ws.heap.size Ws w7 := BS.out.trans (hb7.mono BS.out.size)
              have ZQ7 := Lib.hid zq7
              have HB7 := Lib.hid B7
              clear zq7 B7 hb7
              cases hcan : p.can
              · have E1 := Lib.hid (gL_none (show gR t k = none by rw [ER3.out, hcan]; rfl))
                clear hcan
                go_wp2_with fail
                go_roundw
                case rel => exact ⟨k + 1, by omega, by go_num, by rw [E1.out]; exact HJ.out _ _ _ HJr.out HB7.out, (HSr.out.trans (Same.of_below HB7.out fun _ hk _ => hk))⟩
                case measure => simp [intOf]; omega
              · have EP := Lib.hid (show gR t k = some p by rw [ER3.out, hcan]; rfl)
                have E1 := Lib.hid (gL_some EP.out)
                clear hcan
                have d0 := ZQ7.out.cell 0 (v := .int .i64 p.a.lo) rfl
                have d1 := ZQ7.out.cell 1 (v := .int .i64 p.a.hi) rfl
                have d2 := ZQ7.out.cell 2 (v := .int .i64 p.b.lo) rfl
                have d3 := ZQ7.out.cell 3 (v := .int .i64 p.b.hi) rfl
                have d4 := ZQ7.out.cell 4 (v := .int .i64 p.c.lo) rfl
                have d5 := ZQ7.out.cell 5 (v := .int .i64 p.c.hi) rfl
                have d6 := ZQ7.out.cell 6 (v := .int .i64 (k : Nat)) rfl
                have d7 := ZQ7.out.cell 7 (v := .int .i64 (z : Nat)) rfl
                have d8 := ZQ7.out.lt
                go_upto_region 23 with fail
                refine (wpIn_wide (n := m)).1 ?_
                obtain ⟨fn, tmps, assign, body, hy, hRd⟩ := HY.out (gL t k) ⟨p, k⟩ w7 ⟨(show k < 2 ^ t.n by rw [← HM.out]; exact hlt), EP.out⟩ (HJ.out _ _ _ HJr.out HB7.out) (by have := gL_length t k; omega)
                have hy : Sem.run Tryd.prog (Instr.yield l #[.agg #[.int .i64 p.a.lo, .int .i64 p.a.hi, .int .i64 p.b.lo, .int .i64 p.b.hi, .int .i64 p.c.lo, .int .i64 p.c.hi, .int .i64 (k : Nat), .int .i64 (z : Nat)]]) w7 = Result.ok (Next.round l fn tmps assign body) w7 := by rw [← HZZ.out]; exact hy
                gi_wp2
                refine ⟨fun _ => by omega, hRd.mono ?_⟩
                rintro e W8 (⟨rfl, hJ8, hk8⟩ | ⟨rfl, hJx8⟩)
                · clear hy hRd
                  have J8 := Lib.hid hJ8
                  have K8 := Lib.hid hk8
                  clear hJ8 hk8
                  gi_wp2
                  refine (show Code.wp Tryd.prog (Code.cond (Operand.tmp 125) Code.ret Code.skip) _ _ _ from ?_)
                  go_wp2_with fail
                  go_roundw
                  case rel => exact ⟨k + 1, by omega, by go_num, by rw [E1.out]; exact J8.out, ((HSr.out.trans (Same.of_below HB7.out fun _ hk _ => hk)).trans K8.out)⟩
                  case measure => simp [intOf]; omega
                · clear hy hRd
                  gi_wp2
                  refine (show Code.wp Tryd.prog (Code.cond (Operand.tmp 125) Code.ret Code.skip) _ _ _ from ?_)
                  go_wp2_with fail
                  dsimp only [Exit.noGoto]
                  refine bodyPost_ret (results_none rfl _ _ _) rfl ?_
                  exact ⟨⟨_, rfl⟩, .inr ⟨_, hJx8⟩⟩
    · obtain rfl : k = M := by omega
      have hd0 : decide (k < k) = false := by simp
      go_wp2_with fail
      dsimp only [Exit.noGoto]
      refine bodyPost_end (results_none rfl _ _ _) rfl ⟨⟨_, rfl⟩, .inl HJr.out⟩
end Go.Proofs.YtmeeknmjhlfnaaaDoor
