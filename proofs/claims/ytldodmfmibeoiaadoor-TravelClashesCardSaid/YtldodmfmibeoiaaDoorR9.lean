/- Travel: the document's Clash. -/
import Derived.Test.YtldodmfmibeoiaaDoorR8
namespace Go.Proofs.YtldodmfmibeoiaaDoor
open Go.RowKit
/-- what the document's Clash leaves -/
def DPost (r : Rnd) (off : Int) (w : World) (e : Ending) (w' : World) : Prop := Below w.heap.size w w' ∧
  ((r.err off ≠ 0 ∧ e = .returned (.tuple #[.slice none 0 0, .int .i64 (r.err off)])) ∨ (r.err off = 0 ∧ (∀ M, GoodL r.n M → 1 ≤ M.length → badL r off M = false) ∧ e = .returned (.tuple #[.slice none 0 0, .int .i64 4])) ∨
    (r.err off = 0 ∧ ∃ M a c, DCl r off M ∧ e = .returned (.tuple #[.slice (some a) M.length c, .int .i64 0]) ∧ IntsAt w' (some a) M.length (fun i => ((M.getD i 0 : Nat) : Int))))
theorem dcl_of {r : Rnd} {off : Int} {many : Nat} {M : List Nat} (h : ∀ M', GoodL r.n M' → 1 ≤ M'.length → M'.length < many → badL r off M' = false) (h2 : ChI r off many [] (some M)) : DCl r off M := by
  obtain ⟨E, rfl, hl, hg, hb, hmin⟩ := h2
  refine ⟨hg, hb, fun M' hM' h1 h3 => h M' hM' h1 ?_, fun M' hM' h3 hb' => ?_⟩
  · omega
  · exact hmin M' (by omega) hM' hb'
theorem none_more {r : Rnd} {off : Int} {many : Nat} (h : ∀ M', GoodL r.n M' → 1 ≤ M'.length → M'.length < many → badL r off M' = false) (h2 : ChI r off many [] none) : ∀ M', GoodL r.n M' → 1 ≤ M'.length → M'.length < many + 1 → badL r off M' = false := fun M' hg h1 h3 => by
  by_cases h9 : M'.length = many
  · exact h2 M' h9 hg
  · exact h M' hg h1 (by omega)
set_option maxRecDepth 100000 in
set_option maxHeartbeats 8000000 in
theorem dclash_any (r : Rnd) (oa : Option Addr) (ca : Nat) (off : Int) (w : World) (hn : r.n ≤ 1000000) (hA : TrpsAt w oa r.n r.t) :
    Calls Tryd.prog 21 #[r.val oa ca, .int .i64 off] w (DPost r off w) := by
  have HA := Lib.hid hA
  clear hA
  go_enter Tryd.func21, Tryd.ntmps21
  go_wp2_with fail
  have hb0 := below_alloc1 w (.cells #[.int .i64 r.nb, .int .i64 r.nm, .int .i64 r.most, .slice oa r.n ca] 24)
  have hB := Box.new (g := w.heap.size) #[.int .i64 r.nb, .int .i64 r.nm, .int .i64 r.most, .slice oa r.n ca] 24 w rfl
  obtain ⟨W, hW⟩ : ∃ X, X = w.alloc (.cells #[.int .i64 r.nb, .int .i64 r.nm, .int .i64 r.most, .slice oa r.n ca] 24) := ⟨_, rfl⟩
  rw [← hW] at hb0 hB ⊢
  clear hW
  obtain ⟨gr, hgr⟩ : ∃ G, G = w.heap.size := ⟨_, rfl⟩
  rw [← hgr] at hB ⊢
  clear hgr
  refine (start_any r oa ca off _ hn (HA.out.mono hb0)).mono ?_
  rintro e w1 ⟨rfl, hb1⟩
  have HB := Lib.hid (hB.below hb1)
  have HL := Lib.hid (hb0.trans (hb1.mono hb0.size))
  clear hB hb1 hb0
  by_cases he : r.err off = 0
  case neg =>
    have hq : (r.err off != 0) = true := by simpa using he
    have hq2 : (r.err off == 0) = false := by simpa using he
    have HP := Lib.hid (show DPost r off w (.returned (.tuple #[.slice none 0 0, .int .i64 (r.err off)])) w1 from ⟨HL.out, .inl ⟨he, rfl⟩⟩)
    obtain ⟨er, her⟩ : ∃ x, x = r.err off := ⟨_, rfl⟩
    rw [← her] at he hq hq2 HP ⊢
    clear her
    go_wp2
    refine bodyPost_ret (v := .tuple #[.slice none 0 0, .int .i64 er]) (by simp [results, Tryd.results21, go_sem]) rfl HP.out
  rw [he]
  have hv := (Rnd.err_zero he).1
  have HE := Lib.hid he
  have HV := Lib.hid hv
  have hn14 := (Rnd.valid_head hv).2.2.2
  clear he hv
  go_wp2_with fail
  obtain ⟨wo, rfl⟩ : ∃ wo : World, wo = w1 := ⟨_, rfl⟩
  go_loopw [7] (fun v7 wr => ∃ many : Nat, 1 ≤ many ∧ many ≤ r.n + 1 ∧ v7 = .int .i64 many ∧ Hid (∀ M', GoodL r.n M' → 1 ≤ M'.length → M'.length < many → badL r off M' = false) ∧ Hid (Below w.heap.size w wr) ∧ Hid (Box gr #[.int .i64 r.nb, .int .i64 r.nm, .int .i64 r.most, .slice oa r.n ca] 24 wr)) (fun i _ => r.n + 1 - (intOf i).toNat)
  case atStart => exact ⟨1, Nat.le_refl _, by omega, rfl, Lib.hid (fun M' _ h1 h2 => by omega), HL, HB⟩
  case round =>
    clear HL HB
    obtain ⟨many, hm1, hm2, rfl, HNO, HL, HB⟩ := hrel
    have b3 := HB.out.cell 3 (v := .slice oa r.n ca) rfl
    have b4 := HB.out.lt
    by_cases hlt : many ≤ r.n
    · have b0 := HB.out.cell 0 (v := .int .i64 r.nb) rfl
      have b1 := HB.out.cell 1 (v := .int .i64 r.nm) rfl
      have b2 := HB.out.cell 2 (v := .int .i64 r.most) rfl
      have HC := Lib.hid (show Calls Tryd.prog 48 #[r.val oa ca, .int .i64 off, .int .i64 (many : Nat), .slice none 0 0] wr (ChPost r off many [] wr) from choose_any r oa ca off many HV.out hm1 (by omega) many [] none 0 wr ⟨List.Pairwise.nil, fun m hm => by cases hm⟩ (Nat.zero_add _) (fun i hi => absurd hi (Nat.not_lt_zero _)) (fun _ => ⟨rfl, rfl⟩) (HA.out.mono HL.out))
      have x1 : (many : Int) ≤ (r.n : Int) := by omega
      go_wp2_with fail
      refine HC.out.mono ?_
      intro e w2 hp
      obtain ⟨hb2, hp⟩ := hp
      have HL2 := Lib.hid (HL.out.trans (hb2.mono HL.out.size))
      have HB2 := Lib.hid (HB.out.below hb2)
      clear HC hb2 b0 b1 b2 b3 b4 HL HB
      rcases hp with ⟨hci, rfl⟩ | ⟨M, ma, mc, hci, rfl, hIM⟩
      · have HN2 := Lib.hid (none_more HNO.out hci)
        clear hci HNO
        go_wp2_with fail
        go_roundw
        case rel => exact ⟨many + 1, by omega, by omega, by go_num, HN2, HL2, HB2⟩
        case measure => simp [intOf]; omega
      · have HP := Lib.hid (show DPost r off w (.returned (.tuple #[.slice (some ma) M.length mc, .int .i64 0])) w2 from ⟨HL2.out, .inr (.inr ⟨HE.out, M, ma, mc, dcl_of HNO.out hci, rfl, hIM⟩)⟩)
        clear hci HNO hIM
        obtain ⟨ml, hml⟩ : ∃ x, x = M.length := ⟨_, rfl⟩
        rw [← hml] at HP ⊢
        clear hml
        go_wp2_with fail
        refine bodyPost_ret (v := .tuple #[.slice (some ma) ml mc, .int .i64 0]) (by simp [results, Tryd.results21, go_sem]) rfl HP.out
    · have x1 : ¬ (many : Int) ≤ (r.n : Int) := by omega
      have HP := Lib.hid (show DPost r off w (.returned (.tuple #[.slice none 0 0, .int .i64 4])) wr from ⟨HL.out, .inr (.inl ⟨HE.out, fun M hg h1 => HNO.out M hg h1 (by have := good_len hg; omega), rfl⟩)⟩)
      go_wp2_with fail
      refine bodyPost_ret (v := .tuple #[.slice none 0 0, .int .i64 4]) (by simp [results, Tryd.results21, go_sem]) rfl HP.out
end Go.Proofs.YtldodmfmibeoiaaDoor
