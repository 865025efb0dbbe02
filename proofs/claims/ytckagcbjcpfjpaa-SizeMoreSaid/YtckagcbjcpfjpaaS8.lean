/- What the closure of SizeSmallest returns. -/
import Derived.Test.YtckagcbjcpfjpaaS7
namespace Go.Proofs.Ytckagcbjcpfjpaa
open Go.RowKit
def House.noneB (h : House) (m : Meter) : Bool := m.valid && h.fullB m
set_option maxHeartbeats 1000000 in
theorem none1_any (h : House) (hv : h.valid = true) (g1 : h.nt ≤ 1000000) (g2 : h.nr ≤ 1000000) (m : Meter) (ta ra : Option Addr) (tc rc hb : Nat) (w : World) (hT : TapsAt w ta h.nt h.t) (hR : RulesAt w ra h.nr h.r) (KH : HB h ta ra tc rc hb w) :
    Calls Try.prog 32 #[m.val, .pointer (some ⟨hb, 0, none⟩)] w fun e w' => e = .returned (.bool (h.noneB m)) ∧ Below w.heap.size w w' := by
  have HT := Lib.hid hT
  have HR := Lib.hid hR
  obtain ⟨a0, a1, a2, a3, als⟩ := KH
  have hne0 : ¬ hb = w.heap.size := by omega
  clear hT hR
  go_enter Try.func32, Try.ntmps32
  go_wp2_with fail
  refine (Starved_any h m ta ra tc rc _ g1 g2 (HT.out.mono (below_alloc1 _ _)) (HR.out.mono (below_alloc1 _ _))).mono ?_
  rintro e w1 ⟨rfl, hb1⟩
  have hbw : Below w.heap.size w w1 := (below_alloc1 _ _).trans (hb1.mono (by simp))
  clear hb1
  by_cases hm : m.valid = true
  · have hRR := starvedR_ok hv hm
    by_cases hf : h.fullB m = true
    · rw [if_pos (show wantB (h.starved m) = true from hf)] at hRR
      rw [hRR]
      have HN := Lib.hid (show h.noneB m = true by simp [House.noneB, hm, hf])
      clear hRR
      go_wp2
      go_ret
      exact ⟨ret_bool HN.out.symm, hbw⟩
    · replace hf : h.fullB m = false := by simpa using hf
      rw [if_neg (by rw [show wantB (h.starved m) = false from hf]; simp)] at hRR
      rw [hRR]
      have HN := Lib.hid (show h.noneB m = false by simp [House.noneB, hf])
      clear hRR
      go_wp2
      go_ret
      exact ⟨ret_bool HN.out.symm, hbw⟩
  · replace hm : m.valid = false := by simpa using hm
    rw [show h.starvedR m = (0, false, 2) by simp [House.starvedR, hv, hm]]
    have HN := Lib.hid (show h.noneB m = false by simp [House.noneB, hm])
    go_wp2
    go_ret
    exact ⟨ret_bool HN.out.symm, hbw⟩
end Go.Proofs.Ytckagcbjcpfjpaa
