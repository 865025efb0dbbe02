/- Travel: Clash. -/
import Derived.Test.YtldodmfmibeoiaaDoorP3
namespace Go.Proofs.YtldodmfmibeoiaaDoor
open Go.RowKit
/-- the members of a set, as numbers of the program -/
def memI (x : Nat) : List Int := (mem2 x).map fun k : Nat => (k : Int)
/-- what Clash leaves -/
def ClashPost (r : Rnd) (off : Int) (w : World) (e : Ending) (w' : World) : Prop :=
  Below w.heap.size w w' ∧ ((r.err off ≠ 0 ∧ e = .returned (.tuple #[.slice none 0 0, .int .i64 (r.err off)])) ∨ (r.err off = 0 ∧ (∀ x, x < 2 ^ r.n → okT (r.tab off x) = true) ∧ e = .returned (.tuple #[.slice none 0 0, .int .i64 4])) ∨
    (r.err off = 0 ∧ ∃ best, ClB r off best ∧ ∃ v, e = .returned (.tuple #[v, .int .i64 0]) ∧ w'.ownsRow w.heap.size 3 1 v (memI best).length (listNews (memI best))))
set_option maxRecDepth 100000 in
set_option maxHeartbeats 8000000 in
theorem clash_any (r : Rnd) (oa : Option Addr) (ca : Nat) (off : Int) (w : World) (hn : r.n ≤ 1000000) (hT : TabAt 1 Lib.deBruijn64tab w) (hw1 : 1 < w.heap.size) (hA : TrpsAt w oa r.n r.t) :
    Calls Tryd.prog 20 #[r.val oa ca, .int .i64 off] w (ClashPost r off w) := by
  have HA := Lib.hid hA
  have HT := Lib.hid hT
  have HW1 := Lib.hid hw1
  clear hA hT hw1
  obtain ⟨iR, hiR, hzR0, hzR1, hzR2⟩ := info_parts (P := Tryd.prog) (e := 3) (z := .int .i64 0) (size := 1) (bytes := 8) (by kernel_rfl)
  go_enter Tryd.func20, Tryd.ntmps20
  go_wp2_with fail
  have hb0 := below_alloc1 w (.cells #[.int .i64 r.nb, .int .i64 r.nm, .int .i64 r.most, .slice oa r.n ca] 24)
  have hB := Box.new (g := w.heap.size) #[.int .i64 r.nb, .int .i64 r.nm, .int .i64 r.most, .slice oa r.n ca] 24 w rfl
  obtain ⟨W, hW⟩ : ∃ X, X = w.alloc (.cells #[.int .i64 r.nb, .int .i64 r.nm, .int .i64 r.most, .slice oa r.n ca] 24) := ⟨_, rfl⟩
  rw [← hW] at hb0 hB ⊢
  clear hW
  obtain ⟨gr, hgr⟩ : ∃ G, G = w.heap.size := ⟨_, rfl⟩
  rw [← hgr] at hB ⊢
  clear hgr
  refine (check_any r oa ca off _ hn (HA.out.mono hb0)).mono ?_
  rintro e w1 ⟨rfl, hb1⟩
  have HB2 := Lib.hid (hB.below hb1)
  have HL2 := Lib.hid (hb0.trans (hb1.mono hb0.size))
  clear hB hb1 hb0
  by_cases he : r.err off = 0
  · rw [he]
    have hv := (Rnd.err_zero he).1
    have HE := Lib.hid he
    have HV := Lib.hid hv
    have hn14 := (Rnd.valid_head hv).2.2.2
    clear he hv
    have hnn : (r.n : Int) ≤ 14 := by omega
    go_wp2_with fail
    have q3 : ∀ W : Aft w1, W.val.cell? ⟨gr, 3, none⟩ = some (.slice oa r.n ca) := fun W => (HB2.out.below W.below).cell 3 rfl
    have q4 : ∀ W : Aft w1, gr < W.val.heap.size := fun W => (HB2.out.below W.below).lt
    refine wp_region_aft (by kernel_rfl) (by kernel_rfl) ?_
    repeat (go_big_quiet_step (fail))
    refine wpQuiet_nil ?_
    intro WA
    obtain ⟨wy, hwy⟩ : ∃ X, X = WA.val := ⟨_, rfl⟩
    have hby := WA.below
    rw [← hwy] at hby ⊢
    clear hwy WA
    clear q3 q4
    replace HB2 := Lib.hid (HB2.out.below hby)
    replace HL2 := Lib.hid (HL2.out.trans (hby.mono HL2.out.size))
    clear hby
    have b0 := HB2.out.cell 0 (v := .int .i64 r.nb) rfl
    have b1 := HB2.out.cell 1 (v := .int .i64 r.nm) rfl
    have b2 := HB2.out.cell 2 (v := .int .i64 r.most) rfl
    have b3 := HB2.out.cell 3 (v := .slice oa r.n ca) rfl
    have b4 := HB2.out.lt
    go_wp2_with fail
    refine (all_any r oa ca _ hn14).mono ?_
    rintro e w2 ⟨rfl, hb2⟩
    have HB := Lib.hid (HB2.out.below hb2)
    have HL := Lib.hid (HL2.out.trans (hb2.mono HL2.out.size))
    obtain ⟨M, hM⟩ : ∃ M, M = 2 ^ r.n - 1 := ⟨_, rfl⟩
    rw [← hM]
    have hM16 : M ≤ 16383 := by have := (top_wrap hn14).2; omega
    have HM := Lib.hid (show M + 1 = 2 ^ r.n by have := Nat.two_pow_pos r.n; omega)
    clear hM hb2 b0 b1 b2 b3 b4 HB2 HL2
    go_wp2_with fail
    obtain ⟨wo, rfl⟩ : ∃ wo : World, wo = w2 := ⟨_, rfl⟩
    go_loopw [7, 8, 27] (fun v7 v8 v27 wr => ∃ s best size : Nat, s ≤ M + 1 ∧ v7 = .int .i64 best ∧ v8 = .int .i64 size ∧ v27 = .int .i64 s ∧ best < 16384 ∧ size ≤ 15 ∧ Hid (ClI r off s best size) ∧ Hid (Below w.heap.size w wr) ∧ Hid (Box gr #[.int .i64 r.nb, .int .i64 r.nm, .int .i64 r.most, .slice oa r.n ca] 24 wr)) (fun _ _ i _ => M + 1 - (intOf i).toNat)
    case atStart => exact ⟨0, 0, r.n + 1, by omega, rfl, by go_num, rfl, by omega, by omega, Lib.hid (ClI.zero r off), HL, HB⟩
    case round =>
      obtain ⟨s, best, size, hsM, rfl, rfl, rfl, hbest, hsize, HI, HL, HB⟩ := hrel
      by_cases hlt : s < M + 1
      · have hs14 : s < 16384 := by omega
        have HSB := Lib.hid (show s < 2 ^ r.n by rw [← HM.out]; exact hlt)
        have HZN := Lib.hid (size_le hn14 HSB.out)
        have hzle : sizeN s ≤ 14 := by have := HZN.out; omega
        go_wp2_with fail
        refine (ones_any s hs14 _).mono ?_
        rintro e wr ⟨rfl, rfl⟩
        obtain ⟨z, hz⟩ : ∃ z, z = sizeN s := ⟨_, rfl⟩
        have HZ := Lib.hid hz.symm
        rw [← hz] at HZN hzle ⊢
        replace HZN : Hid (sizeN s ≤ r.n) := by rw [HZ.out]; exact HZN
        clear hz
        by_cases hA1 : size < z
        · have hd1 : decide ((size : Int) < (z : Int)) = true := by simp; omega
          have HSK := Lib.hid (show size < sizeN s ∨ (sizeN s = size ∧ beforeB s best = false) from .inl (by rw [HZ.out]; exact hA1))
          go_wp2_with fail
          go_roundw
          case rel => exact ⟨s + 1, best, size, by omega, rfl, rfl, by go_num, hbest, hsize, Lib.hid (HI.out.skip HZN.out HSK.out), HL, HB⟩
          case measure => simp [intOf]; omega
        · have hd1 : decide ((size : Int) < (z : Int)) = false := by simp; omega
          by_cases hA2 : z = size
          · have hd2 : ((z : Int) == (size : Int)) = true := by simp; omega
            have HA2 := Lib.hid hA2
            clear hA2
            go_wp2_with fail
            refine (before_any s best _ hs14 hbest).mono ?_
            rintro e wr ⟨rfl, rfl⟩
            cases hbf : beforeB s best
            · have HSK := Lib.hid (show size < sizeN s ∨ (sizeN s = size ∧ beforeB s best = false) from .inr ⟨by rw [HZ.out]; exact HA2.out, hbf⟩)
              clear hbf
              go_wp2_with fail
              go_roundw
              case rel => exact ⟨s + 1, best, size, by omega, rfl, rfl, by go_num, hbest, hsize, Lib.hid (HI.out.skip HZN.out HSK.out), HL, HB⟩
              case measure => simp [intOf]; omega
            · have HFD := Lib.hid (show z < size ∨ (z = size ∧ beforeB s best = true) from .inr ⟨HA2.out, hbf⟩)
              clear hbf
              have b0 := HB.out.cell 0 (v := .int .i64 r.nb) rfl
              have b1 := HB.out.cell 1 (v := .int .i64 r.nm) rfl
              have b2 := HB.out.cell 2 (v := .int .i64 r.most) rfl
              have b3 := HB.out.cell 3 (v := .slice oa r.n ca) rfl
              have b4 := HB.out.lt
              go_wp2_with fail
              have hBN := bnd_any r oa ca off s wr HV.out (tab_below HT.out HW1.out HL.out) (Nat.lt_of_lt_of_le HW1.out HL.out.size) (HA.out.mono HL.out) HSB.out
              obtain ⟨TAB, hTAB⟩ : ∃ X, X = r.tab off s := ⟨_, rfl⟩
              have HTAB := Lib.hid hTAB
              rw [← hTAB] at hBN
              clear hTAB b0 b1 b2 b3 b4
              refine hBN.mono ?_
              rintro e w3 ⟨rfl, hb3⟩
              have HL3 := Lib.hid (HL.out.trans (hb3.mono HL.out.size))
              have HB3 := Lib.hid (HB.out.below hb3)
              clear hb3
              rename_i hk9
              refine hk9 _ _ ?_
              clear hk9
              refine wpList_plain rfl fun K2 hK2 => ?_
              go_simp
              refine hK2 _ _ ?_
              clear hK2
              refine wpList_plain rfl fun K3 hK3 => ?_
              go_simp
              refine hK3 _ _ ?_
              clear hK3
              refine wpList_plain rfl fun K4 hK4 => ?_
              go_simp
              refine hK4 _ _ ?_
              clear hK4
              refine wpList_plain rfl fun K5 hK5 => ?_
              go_simp
              refine hK5 _ _ ?_
              clear hK5
              have s9 := Box.new (g := w3.heap.size) Tryd.zeroCells62 62 w3 rfl
              have hC1 := below_alloc1 w3 (.cells Tryd.zeroCells62 62)
              obtain ⟨g9, hG⟩ : ∃ G, G = w3.heap.size := ⟨_, rfl⟩
              obtain ⟨wA, hWA⟩ : ∃ X, X = w3.alloc (.cells Tryd.zeroCells62 62) := ⟨_, rfl⟩
              rw [← hG] at s9 ⊢
              rw [← hWA] at s9 hC1 ⊢
              rw [z62] at s9
              have hg9 : w3.heap.size ≤ g9 := by omega
              clear hG hWA
              refine wpList_plain rfl fun K6 hK6 => ?_
              refine wp_store_box s9 rfl rfl rfl (by rw [cells13_size, cells13_size]) (by rw [cells13_size]; kernel_rfl) (cells13_one _) (fun wc s8 ho => ?_)
              dsimp only [Act.put]
              refine hK6 _ _ ?_
              clear hK6
              have hC2 := hC1.trans (ho.below hg9)
              have HL4 := Lib.hid (HL3.out.trans (hC2.mono HL3.out.size))
              have HB4 := Lib.hid (HB3.out.below hC2)
              clear s9 hC1 hC2 ho s8 HL3 HB3 HL HB
              cases ho : okT TAB
              · have HI9 := Lib.hid (show ClI r off (s + 1) s z from by rw [← HZ.out]; exact HI.out.found hs14 (by rw [← HTAB.out]; exact ho) (by rw [HZ.out]; exact HFD.out))
                clear ho
                go_wp2_with fail
                go_roundw
                case rel => exact ⟨s + 1, s, z, by omega, rfl, rfl, by go_num, hs14, by omega, HI9, HL4, HB4⟩
                case measure => simp [intOf]; omega
              · have HI9 := Lib.hid (HI.out.fine (by rw [← HTAB.out]; exact ho))
                clear ho
                go_wp2_with fail
                go_roundw
                case rel => exact ⟨s + 1, best, size, by omega, rfl, rfl, by go_num, hbest, hsize, HI9, HL4, HB4⟩
                case measure => simp [intOf]; omega
          · have hd2 : ((z : Int) == (size : Int)) = false := by simp; omega
            have HFD := Lib.hid (show z < size ∨ (z = size ∧ beforeB s best = true) from .inl (by omega))
            have b0 := HB.out.cell 0 (v := .int .i64 r.nb) rfl
            have b1 := HB.out.cell 1 (v := .int .i64 r.nm) rfl
            have b2 := HB.out.cell 2 (v := .int .i64 r.most) rfl
            have b3 := HB.out.cell 3 (v := .slice oa r.n ca) rfl
            have b4 := HB.out.lt
            go_wp2_with fail
            have hBN := bnd_any r oa ca off s wr HV.out (tab_below HT.out HW1.out HL.out) (Nat.lt_of_lt_of_le HW1.out HL.out.size) (HA.out.mono HL.out) HSB.out
            obtain ⟨TAB, hTAB⟩ : ∃ X, X = r.tab off s := ⟨_, rfl⟩
            have HTAB := Lib.hid hTAB
            rw [← hTAB] at hBN
            clear hTAB b0 b1 b2 b3 b4
            refine hBN.mono ?_
            rintro e w3 ⟨rfl, hb3⟩
            have HL3 := Lib.hid (HL.out.trans (hb3.mono HL.out.size))
            have HB3 := Lib.hid (HB.out.below hb3)
            clear hb3
            rename_i hk9
            refine hk9 _ _ ?_
            clear hk9
            refine wpList_plain rfl fun K2 hK2 => ?_
            go_simp
            refine hK2 _ _ ?_
            clear hK2
            refine wpList_plain rfl fun K3 hK3 => ?_
            go_simp
            refine hK3 _ _ ?_
            clear hK3
            refine wpList_plain rfl fun K4 hK4 => ?_
            go_simp
            refine hK4 _ _ ?_
            clear hK4
            refine wpList_plain rfl fun K5 hK5 => ?_
            go_simp
            refine hK5 _ _ ?_
            clear hK5
            have s9 := Box.new (g := w3.heap.size) Tryd.zeroCells62 62 w3 rfl
            have hC1 := below_alloc1 w3 (.cells Tryd.zeroCells62 62)
            obtain ⟨g9, hG⟩ : ∃ G, G = w3.heap.size := ⟨_, rfl⟩
            obtain ⟨wA, hWA⟩ : ∃ X, X = w3.alloc (.cells Tryd.zeroCells62 62) := ⟨_, rfl⟩
            rw [← hG] at s9 ⊢
            rw [← hWA] at s9 hC1 ⊢
            rw [z62] at s9
            have hg9 : w3.heap.size ≤ g9 := by omega
            clear hG hWA
            refine wpList_plain rfl fun K6 hK6 => ?_
            refine wp_store_box s9 rfl rfl rfl (by rw [cells13_size, cells13_size]) (by rw [cells13_size]; kernel_rfl) (cells13_one _) (fun wc s8 ho => ?_)
            dsimp only [Act.put]
            refine hK6 _ _ ?_
            clear hK6
            have hC2 := hC1.trans (ho.below hg9)
            have HL4 := Lib.hid (HL3.out.trans (hC2.mono HL3.out.size))
            have HB4 := Lib.hid (HB3.out.below hC2)
            clear s9 hC1 hC2 ho s8 HL3 HB3 HL HB
            cases ho : okT TAB
            · have HI9 := Lib.hid (show ClI r off (s + 1) s z from by rw [← HZ.out]; exact HI.out.found hs14 (by rw [← HTAB.out]; exact ho) (by rw [HZ.out]; exact HFD.out))
              clear ho
              go_wp2_with fail
              go_roundw
              case rel => exact ⟨s + 1, s, z, by omega, rfl, rfl, by go_num, hs14, by omega, HI9, HL4, HB4⟩
              case measure => simp [intOf]; omega
            · have HI9 := Lib.hid (HI.out.fine (by rw [← HTAB.out]; exact ho))
              clear ho
              go_wp2_with fail
              go_roundw
              case rel => exact ⟨s + 1, best, size, by omega, rfl, rfl, by go_num, hbest, hsize, HI9, HL4, HB4⟩
              case measure => simp [intOf]; omega
      · obtain rfl : s = M + 1 := by omega
        rw [show ((M + 1 : Nat) : Int) = (M : Int) + 1 from rfl]
        have b3 := HB.out.cell 3 (v := .slice oa r.n ca) rfl
        have b4 := HB.out.lt
        rcases HI.out with ⟨hI1, -, hI3⟩ | ⟨hI1, hI2, hI3, hI4⟩
        · subst hI1
          have HP := Lib.hid (show ClashPost r off w (.returned (.tuple #[.slice none 0 0, .int .i64 4])) wr from ⟨HL.out, .inr (.inl ⟨HE.out, fun x hx => hI3 x (by rw [HM.out]; exact hx), rfl⟩)⟩)
          have hd1 : decide ((r.n : Int) < ((r.n + 1 : Nat) : Int)) = true := by simp; omega
          have hd2 : decide (((r.n + 1 : Nat) : Int) > (r.n : Int)) = true := by simp; omega
          clear HI hI3
          go_wp2_with fail
          refine bodyPost_ret (v := .tuple #[.slice none 0 0, .int .i64 4]) (by simp [results, Tryd.results20, go_sem]) rfl HP.out
        · have HCB := Lib.hid (show ClB r off best from ⟨by rw [← HM.out]; exact hI1, hI3, fun x hx hb => by rw [← hI2]; exact hI4 x (by rw [HM.out]; exact hx) hb⟩)
          have hsn := size_le hn14 HCB.out.1
          have hlen9 := mem2_len best hbest
          have hd1 : decide ((r.n : Int) < (size : Int)) = false := by simp; omega
          have hd2 : decide ((size : Int) > (r.n : Int)) = false := by simp; omega
          have hle14 : (mem2 best).length ≤ 14 := by omega
          have hle9 : size ≤ r.n := by omega
          have hle8 : ¬ (r.n < size) := by omega
          clear HI hI3 hI4 hI2 hsn hlen9 HB
          go_wp2_with fail
          clear b3 b4
          obtain ⟨wo, rfl⟩ : ∃ wo : World, wo = wr := ⟨_, rfl⟩
          go_loopw [4, 13] (fun v4 v13 wr => ∃ (pre : List Nat) (y : Nat), y < 16384 ∧ Hid (mem2 best = pre ++ mem2 y) ∧ v13 = .int .u64 y ∧ Hid (wr.ownsRow w.heap.size 3 1 v4 pre.length (listNews (pre.map fun k : Nat => (k : Int)))) ∧ Hid (Below w.heap.size w wr)) (fun _ i _ => (intOf i).toNat)
          case atStart => exact ⟨[], best, hbest, rfl, rfl, owns_none, HL⟩
          case round =>
            obtain ⟨pre, y, hy, HPR, rfl, HOW, HL9⟩ := hrel
            clear HL
            by_cases hy0 : y = 0
            · subst hy0
              have hpe : mem2 best = pre := by have := HPR.out; rw [mem2_zero, List.append_nil] at this; exact this
              have hlm : (memI best).length = pre.length := by unfold memI; rw [hpe]; simp
              have HP := Lib.hid (fun v (h : wr.ownsRow w.heap.size 3 1 v pre.length (listNews (pre.map fun k : Nat => (k : Int)))) => show ClashPost r off w (.returned (.tuple #[v, .int .i64 0])) wr from ⟨HL9.out, .inr (.inr ⟨HE.out, best, HCB.out, v, rfl, by rw [hlm]; unfold memI; rw [hpe]; exact h⟩)⟩)
              obtain ⟨oS, cS, rfl, -⟩ := owns_form HOW.out
              clear hpe hlm HPR
              go_wp2_with fail
              refine bodyPost_ret (v := .tuple #[.slice oS pre.length cS, .int .i64 0]) (by simp [results, Tryd.results20, go_sem]) rfl (HP.out _ HOW.out)
            · have hz : ((y : Int) != 0) = true := by simp; omega
              have hs1 := mem2_step hy0
              have hl8 := hle14
              rw [HPR.out, hs1, List.length_append, List.length_cons] at hl8
              have hpl : pre.length ≤ 13 := by omega
              have HP2 := Lib.hid (show mem2 best = (pre ++ [Lib.ctz 64 y]) ++ mem2 (y &&& (y - 1)) by rw [HPR.out, hs1, List.append_assoc]; rfl)
              have HV1 := Lib.hid (show bits BinOp.and IntKind.u64 (y : Int) ((y : Int) - 1) = ((y &&& (y - 1) : Nat) : Int) from by
                have h9 := bits_and_u64_nat y (y - 1) (by omega) (by omega)
                rw [show ((y - 1 : Nat) : Int) = (y : Int) - 1 by omega] at h9
                exact h9)
              have hxl : y &&& (y - 1) ≤ y - 1 := Nat.and_le_right
              obtain ⟨oS, cS, rfl, -⟩ := owns_form HOW.out
              clear hs1 hl8 HPR
              go_wp2_with fail
              refine (tz_any y hy0 (by omega) _ (tab_below HT.out HW1.out HL9.out)).mono ?_
              rintro e wr ⟨rfl, rfl⟩
              obtain ⟨c, hc⟩ : ∃ c, c = Lib.ctz 64 y := ⟨_, rfl⟩
              rw [← hc] at HP2 ⊢
              clear hc
              have hls := HL9.out.size
              have hv1 := HV1.out
              go_wp2_with (at_builtin; refine wpList_append_gen rfl (.tmp 72) (.tmp 75) _ rfl w.heap.size 3 iR _ 1 8 Tryd.underlying37 hiR hzR0 hzR1 hzR2 rfl (by omega) (.slice oS pre.length cS) pre.length (listNews (pre.map fun k : Nat => (k : Int))) rfl (some ⟨wr.heap.size, 0, none⟩) 1 1 [.int .i64 c] rfl (HOW.out.alloc _) (fun e9 => by cases e9) rfl (fun ad9 e9 j9 u9 hu9 => by cases e9; exact news_blk1 (e := 3) (heap_new rfl) hu9) (by simp [Value.oneCell']) (by simp only [maxLen]; omega) (by omega) (by simp; omega) ?_; intro vS wS hownS hgrowS)
              have HLS := Lib.hid (show Below w.heap.size w wS from HL9.out.trans ((below_alloc1 wr (.cells #[.int .i64 c] 3)).mono hls |>.trans (below_row HOW.out hgrowS hls)))
              have HOS := Lib.hid (show wS.ownsRow w.heap.size 3 1 vS (pre ++ [c]).length (listNews ((pre ++ [c]).map fun k : Nat => (k : Int))) by
                rw [List.map_append, List.length_append]
                show wS.ownsRow w.heap.size 3 1 vS (pre.length + 1) (listNews (pre.map (fun k : Nat => (k : Int)) ++ [(c : Int)]))
                rw [listNews_snoc]
                exact hownS)
              clear hownS hgrowS HOW HL9
              go_roundw
              case rel => exact ⟨pre ++ [c], y &&& (y - 1), by omega, HP2, rfl, HOS, HLS⟩
              case measure => simp [intOf]; omega
  · have hq : (r.err off != 0) = true := by simpa using he
    have hq2 : (r.err off == 0) = false := by simpa using he
    have HP := Lib.hid (show ClashPost r off w (.returned (.tuple #[.slice none 0 0, .int .i64 (r.err off)])) w1 from ⟨HL2.out, .inl ⟨he, rfl⟩⟩)
    obtain ⟨er, her⟩ : ∃ x, x = r.err off := ⟨_, rfl⟩
    rw [← her] at he hq hq2 HP ⊢
    clear her
    go_wp2
    refine bodyPost_ret (v := .tuple #[.slice none 0 0, .int .i64 er]) (by simp [results, Tryd.results20, go_sem]) rfl HP.out
end Go.Proofs.YtldodmfmibeoiaaDoor
