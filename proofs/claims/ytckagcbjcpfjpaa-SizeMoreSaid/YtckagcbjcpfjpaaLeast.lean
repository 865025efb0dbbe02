/- Least returns the least Full that starves no set. -/
import Derived.Test.YtckagcbjcpfjpaaChoose2
namespace Go.Proofs.Ytckagcbjcpfjpaa
open Go.RowKit
abbrev sizeOf (loss : Int) (i : Nat) : Meter := ⟨0, (i : Int) + 1, loss, 0⟩
set_option maxHeartbeats 1000000 in
theorem Least1_any (h : House) (hv : h.valid = true) (loss : Int) (i : Nat) (ta ra : Option Addr) (tc rc hb lb : Nat) (w0 w : World) (hT : TapsAt w0 ta h.nt h.t) (hR : RulesAt w0 ra h.nr h.r) (hw : Below w0.heap.size w0 w) (hi : i < 1000000) (hl : 0 ≤ loss ∧ loss ≤ 10000)
    (c0 : w.cell? ⟨hb, 0, none⟩ = some (.int .i64 h.head)) (c1 : w.cell? ⟨hb, 1, none⟩ = some (.int .i64 h.drip)) (c2 : w.cell? ⟨hb, 2, none⟩ = some (.slice ta h.nt tc)) (c3 : w.cell? ⟨hb, 3, none⟩ = some (.slice ra h.nr rc)) (c4 : w.cell? ⟨lb, 0, none⟩ = some (.int .i64 loss)) :
    Calls Try.prog 45 #[.int .i64 (i : Int), .pointer (some ⟨hb, 0, none⟩), .pointer (some ⟨lb, 0, none⟩)] w fun e w' => e = .returned (.bool (h.fullB (sizeOf loss i))) ∧ Below w.heap.size w w' := by
  have HT := Lib.hid (hT.mono hw)
  have HR := Lib.hid (hR.mono hw)
  clear hT hR
  go_enter Try.func45, Try.ntmps45
  go_wp2_with fail
  refine (starved_any h (sizeOf loss i) hv ⟨by dsimp only; omega, by dsimp only; omega, hl.1, hl.2⟩ ta ra tc rc _ HT.out HR.out).mono ?_
  rintro e w3 ⟨rfl, hd1⟩
  have hfull : h.fullB (sizeOf loss i) = wantB (h.starved (sizeOf loss i)) := rfl
  obtain ⟨⟨a, b⟩, hab⟩ : ∃ ab, ab = h.starved (sizeOf loss i) := ⟨_, rfl⟩
  rw [← hab] at hfull ⊢
  have HF := Lib.hid hfull
  clear hab hfull c0 c1 c2 c3 c4
  dsimp only
  go_wp2
  all_goals go_ret
  · have h1 : a = 0 := by assumption
    have h2 : b = true := by assumption
    exact ⟨ret_bool (by rw [HF.out, h1, h2]; rfl), hd1⟩
  · have h1 : a = 0 := by assumption
    have h2 : ¬ b = true := by assumption
    exact ⟨ret_bool (by rw [HF.out, h1]; simp [wantB, h2]), hd1⟩
  · have h1 : ¬ a = 0 := by assumption
    exact ⟨ret_bool (by rw [HF.out]; simp [wantB, h1]), hd1⟩
/-- what sort.Search comes to -/
def SearchPost (w : World) (n : Nat) (p : Nat → Bool) (e : Ending) (w' : World) : Prop := ∃ r : Nat, e = .returned (.int .i64 (r : Int)) ∧ r ≤ n ∧ (0 < r → p (r - 1) = false) ∧ (r < n → p r = true) ∧ Below w.heap.size w w'
set_option maxHeartbeats 1000000 in
theorem Search_any (h : House) (hv : h.valid = true) (loss : Int) (ta ra : Option Addr) (tc rc hb lb : Nat) (w0 w : World) (hT : TapsAt w0 ta h.nt h.t) (hR : RulesAt w0 ra h.nr h.r) (hw : Below w0.heap.size w0 w) (hl : 0 ≤ loss ∧ loss ≤ 10000)
    (h1 : hb < w.heap.size) (h2 : lb < w.heap.size) (c0 : w.cell? ⟨hb, 0, none⟩ = some (.int .i64 h.head)) (c1 : w.cell? ⟨hb, 1, none⟩ = some (.int .i64 h.drip)) (c2 : w.cell? ⟨hb, 2, none⟩ = some (.slice ta h.nt tc)) (c3 : w.cell? ⟨hb, 3, none⟩ = some (.slice ra h.nr rc)) (c4 : w.cell? ⟨lb, 0, none⟩ = some (.int .i64 loss)) :
    Calls Try.prog 44 #[.int .i64 1000000, .func (.func 45) #[] #[.pointer (some ⟨hb, 0, none⟩), .pointer (some ⟨lb, 0, none⟩)]] w (SearchPost w 1000000 fun i => h.fullB (sizeOf loss i)) := by
  have HT := Lib.hid hT
  have HR := Lib.hid hR
  clear hT hR
  go_enter Try.func44, Try.ntmps44
  go_wp2
  go_loopw [5, 6] (fun v5 v6 wr => ∃ i j : Nat, i ≤ j ∧ j ≤ 1000000 ∧ v5 = .int .i64 i ∧ v6 = .int .i64 j ∧ (0 < i → h.fullB (sizeOf loss (i - 1)) = false) ∧ (j < 1000000 → h.fullB (sizeOf loss j) = true) ∧ Below w.heap.size w wr) (fun v5 v6 _ => (intOf v6).toNat - (intOf v5).toNat)
  case atStart => exact ⟨0, 1000000, by omega, by omega, rfl, rfl, by omega, by omega, Below.refl _ _⟩
  case round =>
    obtain ⟨i, j, hij, hj, rfl, rfl, hlo, hhi, hb1⟩ := hrel
    have HLO := Lib.hid hlo
    have HHI := Lib.hid hhi
    clear hlo hhi
    by_cases hlt : i < j
    · have hsz := hb1.size
      have d0 := (hb1.cell (p := ⟨hb, 0, none⟩) h1).trans c0
      have d1 := (hb1.cell (p := ⟨hb, 1, none⟩) h1).trans c1
      have d2 := (hb1.cell (p := ⟨hb, 2, none⟩) h1).trans c2
      have d3 := (hb1.cell (p := ⟨hb, 3, none⟩) h1).trans c3
      have d4 := (hb1.cell (p := ⟨lb, 0, none⟩) h2).trans c4
      go_wp2_with fail
      obtain ⟨m, hm⟩ : ∃ m, m = (i + j) / 2 := ⟨_, rfl⟩
      have em : ((i : Int) + j) / 2 = (m : Int) := by omega
      rw [em]
      have hm1 : i ≤ m ∧ m < j := by omega
      clear em hm
      refine (Least1_any h hv loss m ta ra tc rc hb lb w0 wr HT.out HR.out (hw.trans (hb1.mono hw.size)) (by omega) hl d0 d1 d2 d3 d4).mono ?_
      rintro e w2 ⟨rfl, hb2⟩
      clear c0 c1 c2 c3 c4 d0 d1 d2 d3 d4
      by_cases hp : h.fullB (sizeOf loss m) = true
      · have HP := Lib.hid hp
        go_wp2
        go_roundw
        case rel => exact ⟨i, m, by omega, by omega, rfl, rfl, HLO.out, fun _ => HP.out, hb1.trans (hb2.mono hsz)⟩
        case measure => simp [intOf]; omega
      · replace hp : h.fullB (sizeOf loss m) = false := by simpa using hp
        have HP := Lib.hid hp
        go_wp2
        go_roundw
        case rel => exact ⟨m + 1, j, by omega, by omega, by go_num, rfl, fun _ => HP.out, HHI.out, hb1.trans (hb2.mono hsz)⟩
        case measure => simp [intOf]; omega
    · go_wp2
      go_ret
      have e : i = j := by omega
      subst e
      exact ⟨i, rfl, hj, HLO.out, HHI.out, hb1⟩
/-- what Least comes to: the error, or a number between which sizes turn full -/
def LeastPost (h : House) (loss : Int) (w : World) (e : Ending) (w' : World) : Prop :=
  ∃ r c : Nat, e = .returned (.tuple #[.int .i64 (r : Int), .int .i64 (c : Int)]) ∧ Below w.heap.size w w' ∧
    (if h.valid then (if withinB loss 0 10000 then ((c = 4 ∧ r = 0 ∧ h.fullB (sizeOf loss 999999) = false) ∨ (c = 0 ∧ 1 ≤ r ∧ r ≤ 1000000 ∧ h.fullB (sizeOf loss (r - 1)) = true ∧ (1 < r → h.fullB (sizeOf loss (r - 2)) = false))) else c = 2 ∧ r = 0) else c = 1 ∧ r = 0)
set_option maxHeartbeats 1000000 in
theorem Least_any (h : House) (loss : Int) (ta ra : Option Addr) (tc rc : Nat) (w : World) (g1 : h.nt ≤ 1000000) (g2 : h.nr ≤ 1000000) (hT : TapsAt w ta h.nt h.t) (hR : RulesAt w ra h.nr h.r) :
    Calls Try.prog 22 #[houseV h ta ra tc rc, .int .i64 loss] w (LeastPost h loss w) := by
  have HT := Lib.hid hT
  have HR := Lib.hid hR
  clear hT hR
  have hb0 : Below w.heap.size w ((w.alloc (.cells #[.int .i64 h.head, .int .i64 h.drip, .slice ta h.nt tc, .slice ra h.nr rc] 25)).alloc (.cells #[.int .i64 loss] 3)) := (by repeat' (first | exact Below.refl _ _ | assumption | apply below_drewN | apply Below.drew | (refine Below.alloc ?_ ?_ _) | (refine Below.setCell ?_ ?_ _) | (simp; done) | (simp; omega) | omega))
  go_enter Try.func22, Try.ntmps22
  go_wp2_with fail
  refine (isHouse_any h ta ra tc rc _ g1 g2 (HT.out.mono hb0) (HR.out.mono hb0)).mono ?_
  rintro e w1 ⟨rfl, hb1⟩
  have hs1 := hb1.size
  simp only [World.size_alloc] at hs1
  have q0 : w1.cell? ⟨w.heap.size, 0, none⟩ = some (.int .i64 h.head) := (hb1.cell (p := ⟨w.heap.size, 0, none⟩) (by simp; omega)).trans (by simp [go_sem])
  have q1 : w1.cell? ⟨w.heap.size, 1, none⟩ = some (.int .i64 h.drip) := (hb1.cell (p := ⟨w.heap.size, 1, none⟩) (by simp; omega)).trans (by simp [go_sem])
  have q2 : w1.cell? ⟨w.heap.size, 2, none⟩ = some (.slice ta h.nt tc) := (hb1.cell (p := ⟨w.heap.size, 2, none⟩) (by simp; omega)).trans (by simp [go_sem])
  have q3 : w1.cell? ⟨w.heap.size, 3, none⟩ = some (.slice ra h.nr rc) := (hb1.cell (p := ⟨w.heap.size, 3, none⟩) (by simp; omega)).trans (by simp [go_sem])
  have p0 : w1.cell? ⟨w.heap.size + 1, 0, none⟩ = some (.int .i64 loss) := (hb1.cell (p := ⟨w.heap.size + 1, 0, none⟩) (by simp)).trans (by simp [go_sem])
  have hb2 := hb0.trans (hb1.mono (by simp; omega))
  clear hb1 hb0
  by_cases hv : h.valid = true
  · have HV := Lib.hid hv
    go_wp2_with fail
    refine (isHead_any _ _).mono ?_
    rintro e w2 ⟨rfl, rfl⟩
    by_cases hl : withinB loss 0 10000 = true
    · have HL := Lib.hid hl
      have hl2 : 0 ≤ loss ∧ loss ≤ 10000 := by simpa [withinB] using hl
      have HL2 := Lib.hid hl2
      clear hl2
      go_wp2_with fail
      refine (Search_any h HV.out loss ta ra tc rc _ _ w w1 HT.out HR.out hb2 HL2.out (by omega) (by omega) q0 q1 q2 q3 p0).mono ?_
      rintro e w3 ⟨r, rfl, hr, hlo, hhi, hb3⟩
      have HLO := Lib.hid hlo
      have HHI := Lib.hid hhi
      clear hlo hhi q0 q1 q2 q3 p0
      by_cases hlt : r < 1000000
      · go_wp2
        go_ret2
        refine ⟨r + 1, 0, by simp; omega, hb2.trans (hb3.mono (by omega)), ?_⟩
        rw [if_pos HV.out, if_pos HL.out]
        exact .inr ⟨rfl, by omega, by omega, HHI.out hlt, fun h1 => HLO.out (by omega)⟩
      · have hr2 : r = 1000000 := by omega
        have HR2 := Lib.hid hr2
        clear hr2
        go_wp2
        go_ret2
        refine ⟨0, 4, rfl, hb2.trans (hb3.mono (by omega)), ?_⟩
        rw [if_pos HV.out, if_pos HL.out]
        refine .inl ⟨rfl, rfl, ?_⟩
        have := HLO.out (by have := HR2.out; omega)
        rw [HR2.out] at this
        exact this
    · replace hl : withinB loss 0 10000 = false := by simpa using hl
      have HL := Lib.hid hl
      clear q0 q1 q2 q3 p0
      go_wp2
      go_ret2
      exact ⟨0, 2, rfl, hb2, by rw [if_pos HV.out, HL.out]; exact ⟨rfl, rfl⟩⟩
  · replace hv : h.valid = false := by simpa using hv
    have HV := Lib.hid hv
    clear q0 q1 q2 q3 p0
    go_wp2
    go_ret2
    exact ⟨0, 1, rfl, hb2, by rw [HV.out]; exact ⟨rfl, rfl⟩⟩
end Go.Proofs.Ytckagcbjcpfjpaa
