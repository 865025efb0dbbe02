/- Each meter of a row: the errors, and what a closure says. Errors tells the errors of a row, or why they are not known. -/
import Derived.Test.YthoefcpeagclbaaW25
import Derived.Test.YthoefcpeagclbaaP3
namespace Go.Proofs.Ythoefcpeagclbaa
open Go.RowKit
theorem owns_below {w w' : World} {base e size n : Nat} {v : Value} {xs : List Value} (h : w.ownsRow base e size v n xs) (hb : Below w.heap.size w w') : w'.ownsRow base e size v n xs :=
  h.kept (row := none) ⟨hb.os, hb.tape, hb.output, hb.size, fun k hk _ => hb.block k hk⟩ (by cases v.ownBlock <;> simp)
theorem owns_none {w : World} {base e size : Nat} : w.ownsRow base e size (.slice none 0 0) 0 [] := ⟨by simp, .inl ⟨rfl, rfl⟩⟩
def spanNews (n : Nat) (f : Nat → Spn) : List Value := pairNews n (fun i => (f i).lo) (fun i => (f i).hi)
theorem owns_spans {w : World} {base e n : Nat} {v : Value} {f : Nat → Spn} (h : w.ownsRow base e 2 v n (spanNews n f)) : ∃ oa cap, v = .slice oa n cap ∧ SpnsAt w oa n f ∧ ∀ a, oa = some a → base ≤ a.block := owns_pairs h
set_option maxRecDepth 100000 in
set_option maxHeartbeats 4000000 in
theorem eachErr_any (v : Spn) (or : Option Addr) (m cr : Nat) (r : Nat → Spn) (w : World) (h0 : 1 ≤ v.lo) (h1 : v.lo ≤ v.hi) (hv : v.hi ≤ 100000000000000) (hm : m ≤ 1000) (hR : SpnsAt w or m r) (hr : ∀ i, i < m → 0 ≤ (r i).lo ∧ (r i).lo ≤ (r i).hi ∧ (r i).hi ≤ 1073741824) :
    Calls Try.prog 40 #[.slice or m cr, .func (.func 41) #[v.val] #[]] w fun e w' => ∃ oo cp, e = .returned (.slice oo m cp) ∧ SpnsAt w' oo m (fun i => errR v (r i)) ∧ Below w.heap.size w w' := by
  have HL := Lib.hid hR
  have HB := Lib.hid hr
  clear hR hr
  obtain ⟨iR, hiR, hzR0, hzR1, hzR2⟩ := info_parts (P := Try.prog) (e := 24) (z := .agg #[.int .i64 0, .int .i64 0]) (size := 2) (bytes := 16) (by kernel_rfl)
  go_enter Try.func40, Try.ntmps40
  go_wp2_with fail
  go_loopw [4, 9] (fun v4 v9 wr => ∃ k : Nat, k ≤ m ∧ v9 = .int .i64 k ∧ wr.ownsRow w.heap.size 24 2 v4 k (spanNews k (fun i => errR v (r i))) ∧ Below w.heap.size w wr) (fun _ i _ => m - (intOf i).toNat)
  case atStart => exact ⟨0, Nat.zero_le _, rfl, owns_none, Below.refl _ _⟩
  case round =>
    obtain ⟨k, hk, rfl, hown, hb⟩ := hrel
    by_cases hlt : k < m
    · have hd0 : decide (k < m) = true := by simpa using hlt
      obtain ⟨bb, off, rfl, hlt0, c0, c1⟩ := (HL.out.mono hb) k hlt
      obtain ⟨b0, b1, b2⟩ := HB.out k hlt
      obtain ⟨oS, cS, rfl, -⟩ := owns_form hown
      go_wp2_with fail
      refine (meterErr_any v (r k) _ h0 h1 hv (by omega) (by omega)).mono ?_
      rintro e w1 ⟨rfl, hb1⟩
      have hbz := (below_alloc1 wr (.cells #[.int .i64 (r k).lo, .int .i64 (r k).hi] 24)).trans (hb1.mono (by simp))
      have hown1 := owns_below hown hbz
      have hbr := hb.trans (hbz.mono hb.size)
      have hs1 := hbr.size
      clear hown hbz hb1 c0 c1 hlt0
      go_wp2_with (at_builtin; refine wpList_append_gen rfl (.tmp 13) (.tmp 17) _ rfl w.heap.size 24 iR _ 2 16 Try.underlying36 hiR hzR0 hzR1 hzR2 rfl (by omega) (.slice oS k cS) k (spanNews k (fun i => errR v (r i))) rfl (some ⟨w1.heap.size, 0, none⟩) 1 1 [.int .i64 (errR v (r k)).lo, .int .i64 (errR v (r k)).hi] rfl (hown1.alloc _) (fun e9 => by cases e9) rfl (fun ad9 e9 j9 u9 hu9 => by cases e9; exact news_blk2 (e := 24) (heap_new rfl) hu9) (by simp [Value.oneCell']) (by simp only [maxLen]; omega) (by omega) (by simp; omega) ?_; intro vS wS hownS hgrowS)
      go_roundw
      case rel => exact ⟨k + 1, by omega, by go_num, by unfold spanNews; rw [pair_news_succ]; exact hownS, hbr.trans ((below_alloc1 w1 _).mono (by omega) |>.trans (below_row hown1 hgrowS (by omega)))⟩
      case measure => simp [intOf]; omega
    · obtain rfl : k = m := by omega
      have hd0 : decide (k < k) = false := by simp
      obtain ⟨oS, cS, rfl, hsp, -⟩ := owns_spans hown
      have HS := Lib.hid hsp
      clear hsp hown
      go_wp2_with fail
      go_ret
      exact ⟨oS, cS, rfl, HS.out, hb⟩
end Go.Proofs.Ythoefcpeagclbaa
namespace Go.Proofs.Ythoefcpeagclbaa
open Go.RowKit
set_option maxRecDepth 100000 in
set_option maxHeartbeats 4000000 in
theorem Errors_any (b : Bnch) (x : Ctch) (oa : Option Addr) (cap : Nat) (or : Option Addr) (m cr : Nat) (r : Nat → Spn) (w : World) (hn : b.n ≤ 1000000) (hcap : b.n ≤ cap) (hT : MarksAt w oa b.n b.t) (hm : m ≤ 1000) (hR : SpnsAt w or m r) :
    Calls Try.prog 15 #[b.val oa cap, x.val, .slice or m cr] w fun e w' => ∃ oo cp, e = .returned (.tuple #[.slice oo (cnt (b.testR x m r).2 m) cp, .int .i64 (b.testR x m r).2]) ∧ SpnsAt w' oo (cnt (b.testR x m r).2 m) (fun i => errR (b.testR x m r).1 (r i)) ∧ Below w.heap.size w w' := by
  have HN := Lib.hid (fun (w' : World) (hb : Below w.heap.size w w') => newTest_any b x oa cap or m cr r w' hn hcap (hT.mono hb) (by omega) (hR.mono hb))
  have HL := Lib.hid hR
  have hok := testR_ok (b := b) (x := x) (m := m) (r := r)
  clear hT hR
  generalize b.testR x m r = p at *
  obtain ⟨v, e9⟩ := p
  dsimp only at hok ⊢
  have HO := Lib.hid hok
  clear hok
  go_enter Try.func15, Try.ntmps15
  go_wp2_with fail
  have hbw : Below w.heap.size w (two 26 b oa cap x w) := two_below 26 b oa cap x w
  refine (HN.out _ hbw).mono ?_
  rintro e w1 ⟨rfl, hb1⟩
  have hbw1 := hbw.trans (hb1.mono hbw.size)
  clear hb1 hbw
  go_upto_region 2 with fail
  have T8 := (Box.new #[.int .i64 v.lo, .int .i64 v.hi] 83 w1 rfl)
  have hbw2 := hbw1.alloc hbw1.size (.cells #[.int .i64 v.lo, .int .i64 v.hi] 83)
  have hr1 := hbw1.size
  obtain ⟨g, hg⟩ : ∃ N, N = w1.heap.size := ⟨_, rfl⟩
  obtain ⟨w2, hw2⟩ : ∃ X, X = w1.alloc (.cells #[.int .i64 v.lo, .int .i64 v.hi] 83) := ⟨_, rfl⟩
  rw [← hw2] at T8 hbw2 ⊢
  rw [← hg] at T8 hr1 ⊢
  clear hw2 hg hbw1
  have t0 := T8.cell 0 rfl
  have t1 := T8.cell 1 rfl
  have tl := T8.lt
  clear T8
  by_cases he : e9 = 0
  · subst he
    obtain ⟨k0, k1, k2, k3, k4⟩ := HO.out rfl
    have HB := Lib.hid k4
    clear k4
    go_wp2_with fail
    refine (eachErr_any v or m cr r _ k0 k1 (by omega) hm (HL.out.mono hbw2) HB.out).mono ?_
    rintro e w3 ⟨oo, cp, rfl, hS, hb3⟩
    have HS := Lib.hid hS
    clear hS
    go_wp2_with fail
    refine bodyPost_ret (v := .tuple #[.slice oo m cp, .int .i64 0]) (by simp [results, Try.results15, go_sem]) rfl ⟨oo, cp, rfl, HS.out, hbw2.trans (hb3.mono hbw2.size)⟩
  · have hne : (e9 != 0) = true := by simpa using he
    go_wp2_with fail
    refine bodyPost_ret (v := .tuple #[.slice none 0 0, .int .i64 e9]) (by simp [results, Try.results15, go_sem]) rfl ⟨none, 0, by rw [cnt_ne he], fun i hi => by rw [cnt_ne he] at hi; omega, (by repeat' (first | exact Below.refl _ _ | assumption | apply below_drewN | apply Below.drew | (refine Below.alloc ?_ ?_ _) | (refine Below.setCell ?_ ?_ _) | (simp; done) | (simp; omega) | omega))⟩
end Go.Proofs.Ythoefcpeagclbaa
