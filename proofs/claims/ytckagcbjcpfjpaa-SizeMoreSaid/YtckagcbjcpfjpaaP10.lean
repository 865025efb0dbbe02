/- Plain laws of SizeMore: what a greater Head, a rule more, lesser taps and turned rules do to a house; no program in sight. -/
import Derived.Test.YtckagcbjcpfjpaaL4
namespace Go.Proofs.Ytckagcbjcpfjpaa
open Go.RowKit
/-- x starves no set that h does not -/
structure Easier (x h : House) : Prop where
  nt : x.nt = h.nt
  ok : ∀ s, x.ok s = true → h.ok s = true
  fhi : ∀ s, x.fhi s ≤ h.fhi s
  slack : ∀ s, h.head - h.need s ≤ x.head - x.need s
theorem Easier.starves {x h : House} (E : Easier x h) (hx : x.valid = true) {m : Meter} (hm : m.fair) {s : Nat} (hs : x.starves m s = true) : h.starves m s = true := by
  obtain ⟨m1, m2, m3, m4⟩ := hm
  have f0 := (fhi_bd hx s).1
  have f1 := E.fhi s
  have f2 := E.slack s
  simp only [House.starves, Bool.and_eq_true, Bool.or_eq_true, decide_eq_true_eq] at hs ⊢
  refine ⟨hs.1, ?_⟩
  rcases hs.2 with h1 | h1
  · left; omega
  · right
    generalize h.head - h.need s = d at *
    generalize x.head - x.need s = e at *
    generalize x.fhi s = p at *
    generalize h.fhi s = q at *
    generalize m.full = F at *
    generalize m.loss = L at *
    have a1 : L * p ≤ L * q := Int.mul_le_mul_of_nonneg_left f1 m3
    have a2 : L * p * p ≤ L * q * p := Int.mul_le_mul_of_nonneg_right a1 f0
    have a3 : L * q * p ≤ L * q * q := Int.mul_le_mul_of_nonneg_left f1 (Int.mul_nonneg m3 (by omega))
    have b1 : d * F ≤ e * F := Int.mul_le_mul_of_nonneg_right f2 (by omega)
    have b2 : d * F * F ≤ e * F * F := Int.mul_le_mul_of_nonneg_right b1 (by omega)
    omega
theorem mem_opens {h : House} {n s : Nat} : s ∈ h.opens n ↔ s < n ∧ h.ok s = true := by simp [House.opens, List.mem_filter]
theorem Easier.full {x h : House} (E : Easier x h) (hx : x.valid = true) {m : Meter} (hm : m.fair) (hf : h.fullB m = true) : x.fullB m = true := by
  rw [fullB_iff] at hf ⊢
  intro s hs
  rw [mem_opens, E.nt] at hs
  cases hc : x.starves m s with
  | false => rfl
  | true => exact absurd (E.starves hx hm hc) (by rw [hf s (mem_opens.2 ⟨hs.1, E.ok s hs.2⟩)]; simp)
theorem starvedR_four {h : House} {m : Meter} (h4 : (h.starvedR m).2.2 = 4) : m.valid = true ∧ h.fullB m = true := by
  unfold House.starvedR at h4
  split at h4
  · split at h4
    · rename_i hm
      refine ⟨hm, ?_⟩
      split at h4
      · rename_i hw; exact hw
      · simp at h4
    · simp at h4
  · simp at h4
theorem fair_of {m : Meter} (h : m.valid = true) : m.fair := by
  simp only [Meter.valid, withinB, Bool.and_eq_true, decide_eq_true_eq] at h
  exact ⟨by omega, by omega, by omega, by omega⟩
theorem Easier.four {x h : House} (E : Easier x h) (hx : x.valid = true) {m : Meter} (h4 : (h.starvedR m).2.2 = 4) : (x.starvedR m).2.2 = 4 := by
  obtain ⟨hm, hf⟩ := starvedR_four h4
  have := E.full hx (fair_of hm) hf
  unfold House.starvedR
  rw [if_pos hx, if_pos hm, if_pos (show wantB (x.starved m) = true from this)]
theorem Easier.least {x h : House} (E : Easier x h) (hx : x.valid = true) (hv : h.valid = true) {loss : Int} {r c q d : Nat} (h1 : LeastIs h loss r c) (h2 : LeastIs x loss q d) (hc : c = 0) : d = 0 ∧ q ≤ r := by
  unfold LeastIs at h1 h2
  rw [if_pos hv] at h1
  rw [if_pos hx] at h2
  by_cases hl : withinB loss 0 10000 = true
  · rw [if_pos hl] at h1 h2
    have hl2 : 0 ≤ loss ∧ loss ≤ 10000 := by simpa [withinB] using hl
    rcases h1 with ⟨k1, _, _⟩ | ⟨_, k1, k2, k3, k4⟩
    · omega
    · have hf := E.full hx (m := sizeOf loss (r - 1)) ⟨by dsimp only; omega, by dsimp only; omega, hl2.1, hl2.2⟩ k3
      rcases h2 with ⟨_, _, j3⟩ | ⟨j0, j1, j2, j3, j4⟩
      · have := fullB_mono x loss hl2.1 (i := r - 1) (j := 999999) (by omega) hf
        rw [j3] at this; cases this
      · refine ⟨j0, ?_⟩
        rcases Nat.lt_or_ge r q with hlt | hge
        · have := fullB_mono x loss hl2.1 (i := r - 1) (j := q - 2) (by omega) hf
          rw [j4 (by omega)] at this; cases this
        · exact hge
  · rw [if_neg hl] at h1
    omega
theorem anyB_not {n : Nat} {p : Nat → Bool} (h : anyB n p = false) (i : Nat) (hi : i < n) : p i = false := by
  cases hp : p i with
  | false => rfl
  | true =>
    have := anyB_iff.2 ⟨i, hi, hp⟩
    rw [h] at this; cases this
theorem ok_iff {h : House} {s : Nat} : h.ok s = true ↔ ∀ i, i < h.nr → decide ((pop (s &&& (h.r i).taps.toNat) : Int) > (h.r i).most) = false := by
  unfold House.ok allowedB
  rw [Bool.not_eq_true']
  constructor
  · intro hn i hi
    exact anyB_not hn i hi
  · intro ha
    cases hn : anyB h.nr (fun i => decide ((pop (s &&& ((h.r i).taps.toNat, (h.r i).most).1) : Int) > ((h.r i).taps.toNat, (h.r i).most).2)) with
    | false => rfl
    | true =>
      obtain ⟨i, hi, hp⟩ := anyB_iff.1 hn
      rw [ha i hi] at hp; cases hp
def House.rich (h : House) (by9 : Nat) : House := { h with head := min 10000 (h.head + by9) }
def House.strict (h : House) (q : Rule) : House := { h with nr := h.nr + 1, r := fun i => if i < h.nr then h.r i else q }
def lessTap (t : Tap) (by9 : Nat) : Tap := ⟨t.lo, max t.lo (t.hi - by9), max 0 (t.need - (by9 : Int) % 7)⟩
def House.less (h : House) (k by9 : Nat) : House := { h with t := fun i => if i = k then lessTap (h.t k) by9 else h.t i }
def House.turned (h : House) (z : Nat) : House := { h with nr := if h.nr = 0 then 0 else h.nr + 1, r := fun i => if i < h.nr then h.r ((i + z) % h.nr) else h.r 0 }
theorem easier_rich {h : House} (hv : h.valid = true) (by9 : Nat) : Easier (h.rich by9) h := by
  have := valid_nt hv
  refine ⟨rfl, fun s hs => hs, fun s => Int.le_refl _, fun s => ?_⟩
  show h.head - h.need s ≤ min 10000 (h.head + by9) - h.need s
  omega
theorem easier_strict (h : House) (q : Rule) : Easier (h.strict q) h := by
  refine ⟨rfl, fun s hs => ?_, fun s => Int.le_refl _, fun s => Int.le_refl _⟩
  rw [ok_iff] at hs ⊢
  intro i hi
  have := hs i (by show i < h.nr + 1; omega)
  simpa [House.strict, hi] using this
theorem sumN_le {n : Nat} {f g : Nat → Int} (h : ∀ k, k < n → f k ≤ g k) : sumN n f ≤ sumN n g := by
  induction n with
  | zero => exact Int.le_refl _
  | succ n ih =>
    have := ih fun k hk => h k (by omega)
    have := h n (by omega)
    simp only [sumN]; omega
theorem maxN_le {n : Nat} {f g : Nat → Int} (h : ∀ k, k < n → f k ≤ g k) : maxN n f ≤ maxN n g := by
  induction n with
  | zero => exact Int.le_refl _
  | succ n ih =>
    have := ih fun k hk => h k (by omega)
    have := h n (by omega)
    simp only [maxN]; omega
theorem easier_less {h : House} (hv : h.valid = true) (k by9 : Nat) (hk : k < h.nt) : Easier (h.less k by9) h := by
  have ht := valid_tap hv k hk
  refine ⟨rfl, fun s hs => hs, fun s => ?_, fun s => ?_⟩
  · refine sumN_le fun i hi => ?_
    by_cases hb : bitAt s i = true
    · rw [if_pos hb, if_pos hb]
      by_cases e : i = k
      · subst e
        simp only [House.less, if_true, lessTap]; omega
      · simp only [House.less, if_neg e]; omega
    · rw [if_neg hb, if_neg hb]; omega
  · have : (h.less k by9).need s ≤ h.need s := by
      refine maxN_le fun i hi => ?_
      by_cases hb : bitAt s i = true
      · rw [if_pos hb, if_pos hb]
        by_cases e : i = k
        · subst e
          simp only [House.less, if_true, lessTap]; omega
        · simp only [House.less, if_neg e]; omega
      · rw [if_neg hb, if_neg hb]; omega
    have e : (h.less k by9).head = h.head := rfl
    rw [e]; omega
theorem turned_ok (h : House) (z s : Nat) : (h.turned z).ok s = h.ok s := by
  have key : (h.turned z).ok s = true ↔ h.ok s = true := by
    rw [ok_iff, ok_iff]
    by_cases h0 : h.nr = 0
    · have e : (h.turned z).nr = 0 := by simp [House.turned, h0]
      rw [e, h0]
      exact ⟨fun _ i hi => by omega, fun _ i hi => by omega⟩
    · have e : (h.turned z).nr = h.nr + 1 := by simp [House.turned, h0]
      rw [e]
      have hr : ∀ i, (h.turned z).r i = if i < h.nr then h.r ((i + z) % h.nr) else h.r 0 := fun _ => rfl
      constructor
      · intro ha i hi
        -- the place from which rule i has come
        have hz := Nat.mod_lt z (show 0 < h.nr by omega)
        obtain ⟨j, hj, hji⟩ : ∃ j, j < h.nr ∧ (j + z) % h.nr = i := by
          refine ⟨(i + (h.nr - z % h.nr)) % h.nr, Nat.mod_lt _ (by omega), ?_⟩
          rw [Nat.add_mod, Nat.mod_mod, ← Nat.add_mod]
          have hd := Nat.div_add_mod z h.nr
          have e2 : i + (h.nr - z % h.nr) + z = i + h.nr * (z / h.nr + 1) := by rw [Nat.mul_add, Nat.mul_one]; omega
          rw [e2, Nat.add_mul_mod_self_left]
          exact Nat.mod_eq_of_lt hi
        have := ha j (by omega)
        rw [hr, if_pos hj, hji] at this
        exact this
      · intro ha i hi
        rw [hr]
        by_cases hl : i < h.nr
        · rw [if_pos hl]; exact ha _ (Nat.mod_lt _ (by omega))
        · rw [if_neg hl]; exact ha 0 (by omega)
  cases h1 : (h.turned z).ok s <;> cases h2 : h.ok s <;> simp_all
theorem turned_opens (h : House) (z n : Nat) : (h.turned z).opens n = h.opens n := by
  unfold House.opens
  congr 1
  funext s
  exact turned_ok h z s
theorem turned_starved (h : House) (z : Nat) (m : Meter) : (h.turned z).starved m = h.starved m := by
  unfold House.starved
  rw [turned_opens]
  rfl
theorem turned_valid {h : House} (hv : h.valid = true) (h8 : h.nr < 8) (z : Nat) : (h.turned z).valid = true := by
  have hn := valid_nt hv
  have hr : ∀ i, i < h.nr → ruleBad h.nt (h.r i).taps (h.r i).most = false := fun i hi => by
    simp only [House.valid, Bool.and_eq_true, Bool.not_eq_true'] at hv
    exact anyB_not hv.2 i hi
  have ht : ∀ i, i < h.nt → tapBad (h.t i).lo (h.t i).hi (h.t i).need = false := fun i hi => by
    simp only [House.valid, Bool.and_eq_true, Bool.not_eq_true'] at hv
    exact anyB_not hv.1.2 i hi
  refine valid_of ⟨decide_eq_true ?_, decide_eq_true ?_, decide_eq_true ?_, decide_eq_true ?_⟩ ht fun i hi => ?_
  · show 0 ≤ h.head ∧ h.head ≤ 10000; omega
  · show 0 ≤ h.drip ∧ h.drip ≤ 1000000; omega
  · show (1 : Int) ≤ (h.nt : Int) ∧ (h.nt : Int) ≤ 10; omega
  · show (if h.nr = 0 then 0 else h.nr + 1) ≤ 8; split <;> omega
  · have h0 : h.nr ≠ 0 := fun e => by
      have : (h.turned z).nr = 0 := by simp [House.turned, e]
      omega
    show ruleBad h.nt (if i < h.nr then h.r ((i + z) % h.nr) else h.r 0).taps (if i < h.nr then h.r ((i + z) % h.nr) else h.r 0).most = false
    split
    · exact hr _ (Nat.mod_lt _ (by omega))
    · exact hr 0 (by omega)
theorem turned_starvedR {h : House} (hv : h.valid = true) (h8 : h.nr < 8) (z : Nat) (m : Meter) : (h.turned z).starvedR m = h.starvedR m := by
  unfold House.starvedR
  rw [turned_valid hv h8, hv, turned_starved]
theorem turned_full (h : House) (z : Nat) (m : Meter) : (h.turned z).fullB m = h.fullB m := by
  unfold House.fullB
  rw [turned_starved]
theorem turned_least {h : House} (hv : h.valid = true) (h8 : h.nr < 8) {z : Nat} {loss : Int} {r c q d : Nat} (h1 : LeastIs h loss r c) (h2 : LeastIs (h.turned z) loss q d) : r = q ∧ c = d := by
  refine leastIs_one h1 ?_
  unfold LeastIs at h2 ⊢
  rw [turned_valid hv h8] at h2
  simp only [turned_full] at h2
  rw [hv]
  exact h2
theorem turned_peakR {h : House} (hv : h.valid = true) (h8 : h.nr < 8) (z : Nat) : (h.turned z).peakR = h.peakR := by
  unfold House.peakR House.peak House.peakOf
  rw [turned_valid hv h8, hv, turned_opens]
  rfl
end Go.Proofs.Ytckagcbjcpfjpaa
