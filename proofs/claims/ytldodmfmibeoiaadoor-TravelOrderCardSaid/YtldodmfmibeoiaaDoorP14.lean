/- Travel, plain: a round that is turned, with its trips, benches and meters, tells the same. -/
import Derived.Test.YtldodmfmibeoiaaDoorF1
namespace Go.Proofs.YtldodmfmibeoiaaDoor
open Go.RowKit
/-- where a thing goes when n things are turned by k -/
def rot (n k i : Nat) : Nat := (i + k) % n
theorem rot_lt {n : Nat} (hn : 0 < n) (k i : Nat) : rot n k i < n := Nat.mod_lt _ hn
theorem rot_eq {n i : Nat} (k : Nat) (hi : i < n) : rot n k i = if i + k % n < n then i + k % n else i + k % n - n := by
  unfold rot
  have hk := Nat.mod_lt k (show 0 < n by omega)
  rw [Nat.add_mod, Nat.mod_eq_of_lt hi]
  generalize k % n = r at *
  split
  · rename_i h; exact Nat.mod_eq_of_lt h
  · rename_i h
    rw [Nat.mod_eq_sub_mod (by omega), Nat.mod_eq_of_lt (by omega)]
theorem rot_inj {n k i j : Nat} (hi : i < n) (hj : j < n) (h : rot n k i = rot n k j) : i = j := by
  rw [rot_eq k hi, rot_eq k hj] at h
  have hk := Nat.mod_lt k (show 0 < n by omega)
  generalize k % n = r at *
  split at h <;> split at h <;> omega
def unrot (n k j : Nat) : Nat := rot n (n - k % n) j
theorem rot_unrot {n j : Nat} (k : Nat) (hj : j < n) : rot n k (unrot n k j) = j := by
  have hk := Nat.mod_lt k (show 0 < n by omega)
  have h1 : unrot n k j < n := rot_lt (by omega) _ _
  rw [rot_eq k h1]
  have h2 : unrot n k j = if j + (n - k % n) % n < n then j + (n - k % n) % n else j + (n - k % n) % n - n := rot_eq _ hj
  have h3 : (n - k % n) % n = if k % n = 0 then 0 else n - k % n := by
    split
    · rename_i h; rw [h, Nat.sub_zero, Nat.mod_self]
    · exact Nat.mod_eq_of_lt (by omega)
  rw [h3] at h2
  generalize k % n = r at *
  generalize unrot n k j = u at *
  split at h2 <;> split at h2 <;> split <;> omega
theorem unrot_lt {n j : Nat} (k : Nat) (hj : j < n) : unrot n k j < n := rot_lt (by omega) _ _
theorem unrot_rot {n i : Nat} (k : Nat) (hi : i < n) : unrot n k (rot n k i) = i := by
  have h := rot_lt (n := n) (by omega) k i
  exact rot_inj (unrot_lt k h) hi (rot_unrot k h)
def Trp.turn (nb nm k : Nat) (t : Trp) : Trp := ⟨(rot nb k t.b.toNat : Nat), (rot nm (k / 3) t.m.toNat : Nat), t.lo, t.hi⟩
/-- the round that is turned -/
def Rnd.turn (r : Rnd) (k : Nat) : Rnd := ⟨r.nb, r.nm, r.most, r.n, fun i => (r.t (rot r.n k i)).turn r.nb.toNat r.nm.toNat k⟩
/-- the suspicion that is turned -/
def ownI (nb k : Nat) (off : Int) : Int := if 0 ≤ off then (rot nb k off.toNat : Nat) else off
theorem Rnd.turn_valid {r : Rnd} (hv : r.valid = true) (k : Nat) : (r.turn k).valid = true := by
  have hh := Rnd.valid_head hv
  unfold Rnd.valid
  rw [Bool.and_eq_true]
  constructor
  · have h1 : r.head = true := by unfold Rnd.valid at hv; rw [Bool.and_eq_true] at hv; exact hv.1
    exact h1
  · rw [Bool.not_eq_true', Bool.eq_false_iff]
    intro h9
    obtain ⟨i, hi, h8⟩ := anyB_iff.1 h9
    have hi2 : i < r.n := hi
    have hr := rot_lt (n := r.n) (by omega) k i
    have h3 := Rnd.valid_trip hv hr
    have hb := rot_lt (n := r.nb.toNat) (by omega) k (r.t (rot r.n k i)).b.toNat
    have hm := rot_lt (n := r.nm.toNat) (by omega) (k / 3) (r.t (rot r.n k i)).m.toNat
    have h7 : badT r.nb r.nm ((r.t (rot r.n k i)).turn r.nb.toNat r.nm.toNat k) = false := by
      unfold badT withinB Trp.turn
      simp only
      rw [decide_eq_true (show (0 : Int) ≤ ((rot r.nb.toNat k (r.t (rot r.n k i)).b.toNat : Nat) : Int) ∧ _ ≤ r.nb - 1 by omega), decide_eq_true (show (0 : Int) ≤ ((rot r.nm.toNat (k / 3) (r.t (rot r.n k i)).m.toNat : Nat) : Int) ∧ _ ≤ r.nm - 1 by omega), decide_eq_false (by omega)]
      rfl
    have h6 : badT r.nb r.nm ((r.t (rot r.n k i)).turn r.nb.toNat r.nm.toNat k) = true := h8
    rw [h7] at h6
    cases h6
theorem ownI_range {nb k : Nat} {off : Int} (hb : 0 < nb) (h0 : -1 ≤ off) : -1 ≤ ownI nb k off ∧ (off < nb → ownI nb k off < nb) := by
  unfold ownI
  have := rot_lt hb k off.toNat
  split <;> omega
theorem err_of {r : Rnd} (hv : r.valid = true) {off : Int} (h0 : -1 ≤ off) (h1 : off < r.nb) : r.err off = 0 := by
  unfold Rnd.err withinB
  rw [if_neg (by rw [hv]; simp), decide_eq_true (by omega)]
  rfl
/-- where a number goes, and where it comes from -/
def sgI (nb nm k i : Nat) : Nat := if i = 0 then 0 else if i ≤ 6 then 1 + rot nb k (i - 1) else 7 + rot nm (k / 3) (i - 7)
def taI (nb nm k i : Nat) : Nat := if i = 0 then 0 else if i ≤ 6 then 1 + unrot nb k (i - 1) else 7 + unrot nm (k / 3) (i - 7)
theorem sg_b (nb nm k : Nat) {b : Nat} (hb : b < 6) : sgI nb nm k (1 + b) = 1 + rot nb k b := by unfold sgI; rw [if_neg (by omega), if_pos (by omega), Nat.add_sub_cancel_left]
theorem sg_m (nb nm k m : Nat) : sgI nb nm k (7 + m) = 7 + rot nm (k / 3) m := by unfold sgI; rw [if_neg (by omega), if_neg (by omega), Nat.add_sub_cancel_left]
theorem sg_0 (nb nm k : Nat) : sgI nb nm k 0 = 0 := if_pos rfl
theorem ta_b (nb nm k : Nat) {b : Nat} (hb : b < 6) : taI nb nm k (1 + b) = 1 + unrot nb k b := by unfold taI; rw [if_neg (by omega), if_pos (by omega), Nat.add_sub_cancel_left]
theorem ta_m (nb nm k m : Nat) : taI nb nm k (7 + m) = 7 + unrot nm (k / 3) m := by unfold taI; rw [if_neg (by omega), if_neg (by omega), Nat.add_sub_cancel_left]
theorem ta_0 (nb nm k : Nat) : taI nb nm k 0 = 0 := if_pos rfl
theorem Rnd.turn_fwd {r : Rnd} (hv : r.valid = true) {k : Nat} {off : Int} {y : Nat → Int} (h : (r.turn k).CA (ownI r.nb.toNat k off) y) (h0 : off < r.nb) : r.CA off (fun i => y (sgI r.nb.toNat r.nm.toNat k i)) := by
  have hh := Rnd.valid_head hv
  refine ⟨fun b hb hne => ?_, fun j hj _ => ?_⟩
  · have hr := rot_lt (n := r.nb.toNat) (by omega) k b
    have h9 := h.1 (rot r.nb.toNat k b) (show ((rot r.nb.toNat k b : Nat) : Int) < r.nb by omega) (fun e => by
      unfold ownI at e
      split at e
      · have h8 : rot r.nb.toNat k b = rot r.nb.toNat k off.toNat := by omega
        have := rot_inj (by omega) (by omega) h8
        omega
      · omega)
    simp only [sg_b _ _ _ (show b < 6 by omega), sg_0]
    exact h9
  · have h3 := Rnd.valid_trip hv hj
    have hu := unrot_lt (n := r.n) k hj
    have h9 := h.2 (unrot r.n k j) hu trivial
    change ((r.t (rot r.n k (unrot r.n k j))).turn r.nb.toNat r.nm.toNat k).C y at h9
    rw [rot_unrot k hj] at h9
    unfold Trp.C Trp.turn at h9
    simp only [Int.toNat_natCast] at h9
    unfold Trp.C
    simp only [sg_b _ _ _ (show (r.t j).b.toNat < 6 by omega), sg_m]
    exact h9
theorem Rnd.turn_bwd {r : Rnd} (hv : r.valid = true) {k : Nat} {off : Int} {z : Nat → Int} (h : r.CA off z) : (r.turn k).CA (ownI r.nb.toNat k off) (fun i => z (taI r.nb.toNat r.nm.toNat k i)) := by
  have hh := Rnd.valid_head hv
  refine ⟨fun b hb hne => ?_, fun j hj _ => ?_⟩
  · have hb2 : (b : Int) < r.nb := hb
    have hr := unrot_lt (n := r.nb.toNat) k (show b < r.nb.toNat by omega)
    have h9 := h.1 (unrot r.nb.toNat k b) (by omega) (fun e => hne (by
      unfold ownI
      rw [if_pos (by omega), ← e, Int.toNat_natCast, rot_unrot k (by omega)]))
    simp only [ta_b _ _ _ (show b < 6 by omega), ta_0]
    exact h9
  · have hj2 : j < r.n := hj
    have hr := rot_lt (n := r.n) (by omega) k j
    have h3 := Rnd.valid_trip hv hr
    have h9 := h.2 (rot r.n k j) hr trivial
    have h4 := rot_lt (n := r.nb.toNat) (by omega) k (r.t (rot r.n k j)).b.toNat
    change ((r.t (rot r.n k j)).turn r.nb.toNat r.nm.toNat k).C _
    unfold Trp.C at h9
    unfold Trp.C Trp.turn
    simp only [Int.toNat_natCast, ta_b _ _ _ (show rot r.nb.toNat k (r.t (rot r.n k j)).b.toNat < 6 by omega), ta_m]
    rw [unrot_rot k (show (r.t (rot r.n k j)).b.toNat < r.nb.toNat by omega), unrot_rot (k / 3) (show (r.t (rot r.n k j)).m.toNat < r.nm.toNat by omega)]
    exact h9
theorem Rnd.turn_ok {r : Rnd} (hv : r.valid = true) (k : Nat) {off : Int} (h0 : off < r.nb) : okT ((r.turn k).D (ownI r.nb.toNat k off)) = okT (r.D off) := by
  refine Bool.eq_iff_iff.2 ?_
  rw [Rnd.D_ok (Rnd.turn_valid hv k), Rnd.D_ok hv]
  exact ⟨fun ⟨y, h⟩ => ⟨_, Rnd.turn_fwd hv h h0⟩, fun ⟨z, h⟩ => ⟨_, Rnd.turn_bwd hv h⟩⟩
/-- two tables say the same of two things -/
theorem dif_same {r x : Rnd} (hv : r.valid = true) (hx : x.valid = true) {off own : Int} (h1 : okT (r.D off) = true) (h2 : okT (x.D own) = true) {a b a' b' : Nat} (ha : a < 13) (hb : b < 13) (ha' : a' < 13) (hb' : b' < 13)
    (hf : ∀ z, r.CA off z → ∃ y, x.CA own y ∧ y a' - y b' = z a - z b) (hg : ∀ y, x.CA own y → ∃ z, r.CA off z ∧ z a - z b = y a' - y b') :
    (r.D off a b < 1099511627776 ↔ x.D own a' b' < 1099511627776) ∧ (r.D off a b < 1099511627776 → r.D off a b = x.D own a' b') := by
  by_cases c1 : r.D off a b < 1099511627776
  · obtain ⟨p1, z, p2, p3⟩ := Rnd.D_lt hv h1 ha hb c1
    by_cases c2 : x.D own a' b' < 1099511627776
    · obtain ⟨q1, y, q2, q3⟩ := Rnd.D_lt hx h2 ha' hb' c2
      refine ⟨⟨fun _ => c2, fun _ => c1⟩, fun _ => ?_⟩
      obtain ⟨y2, e1, e2⟩ := hf z p2
      obtain ⟨z2, e3, e4⟩ := hg y q2
      have := q1 y2 e1
      have := p1 z2 e3
      omega
    · obtain ⟨y, q1, q2⟩ := Rnd.D_far hx h2 ha' hb' c2 (r.D off a b + 1)
      obtain ⟨z2, e3, e4⟩ := hg y q1
      have := p1 z2 e3
      omega
  · by_cases c2 : x.D own a' b' < 1099511627776
    · obtain ⟨q1, y, q2, q3⟩ := Rnd.D_lt hx h2 ha' hb' c2
      obtain ⟨z, p1, p2⟩ := Rnd.D_far hv h1 ha hb c1 (x.D own a' b' + 1)
      obtain ⟨y2, e1, e2⟩ := hf z p1
      have := q1 y2 e1
      omega
    · exact ⟨⟨fun h => absurd h c1, fun h => absurd h c2⟩, fun h => absurd h c1⟩
theorem tell_same {D E : T13} {a a' : Nat} {t : Bool} (h1 : (D a 0 < 1099511627776 ↔ E a' 0 < 1099511627776) ∧ (D a 0 < 1099511627776 → D a 0 = E a' 0)) (h2 : (D 0 a < 1099511627776 ↔ E 0 a' < 1099511627776) ∧ (D 0 a < 1099511627776 → D 0 a = E 0 a')) : tellD D a t = tellD E a' t := by
  unfold tellD
  by_cases c : D a 0 < 1099511627776 ∧ D 0 a < 1099511627776
  · rw [if_pos c, if_pos (show E a' 0 < 1099511627776 ∧ E 0 a' < 1099511627776 from ⟨h1.1.1 c.1, h2.1.1 c.2⟩), h1.2 c.1, h2.2 c.2]
  · rw [if_neg c, if_neg (fun h => c ⟨h1.1.2 h.1, h2.1.2 h.2⟩)]
theorem Rnd.turn_tell {r : Rnd} (hv : r.valid = true) (k : Nat) {off : Int} (h0 : off < r.nb) (hok : okT (r.D off) = true) {a : Nat} (ha : a < 13) (hs : sgI r.nb.toNat r.nm.toNat k a < 13) (hts : taI r.nb.toNat r.nm.toNat k (sgI r.nb.toNat r.nm.toNat k a) = a) (t : Bool) :
    tellD (r.D off) a t = tellD ((r.turn k).D (ownI r.nb.toNat k off)) (sgI r.nb.toNat r.nm.toNat k a) t := by
  have h2 := (Rnd.turn_ok hv k h0).trans hok
  refine tell_same (dif_same hv (Rnd.turn_valid hv k) hok h2 ha (by omega) hs (by omega) (fun z hz => ⟨_, Rnd.turn_bwd hv hz, ?_⟩) (fun y hy => ⟨_, Rnd.turn_fwd hv hy h0, ?_⟩)) (dif_same hv (Rnd.turn_valid hv k) hok h2 (by omega) ha (by omega) hs (fun z hz => ⟨_, Rnd.turn_bwd hv hz, ?_⟩) (fun y hy => ⟨_, Rnd.turn_fwd hv hy h0, ?_⟩))
  · simp only [hts, ta_0]
  · simp only [sg_0]
  · simp only [hts, ta_0]
  · simp only [sg_0]
theorem Rnd.turn_fault {r : Rnd} (hv : r.valid = true) (k : Nat) {off : Int} (hm : -1 ≤ off) (h0 : off < r.nb) {b : Nat} (hb : (b : Int) < r.nb) : r.fault off b = (r.turn k).fault (ownI r.nb.toNat k off) (rot r.nb.toNat k b : Nat) := by
  have hh := Rnd.valid_head hv
  have hrb := rot_lt (n := r.nb.toNat) (by omega) k b
  have hro := ownI_range (nb := r.nb.toNat) (k := k) (by omega) hm
  have e1 := err_of hv hm h0
  have e2 : (r.turn k).err (ownI r.nb.toNat k off) = 0 := err_of (Rnd.turn_valid hv k) hro.1 (show ownI r.nb.toNat k off < r.nb by omega)
  have w1 : withinB (b : Int) 0 (r.nb - 1) = true := decide_eq_true (by omega)
  have w2 : withinB ((rot r.nb.toNat k b : Nat) : Int) 0 ((r.turn k).nb - 1) = true := decide_eq_true (show (0 : Int) ≤ _ ∧ _ ≤ r.nb - 1 by omega)
  unfold Rnd.fault Rnd.tell
  rw [e1, e2, w1, w2, Rnd.turn_ok hv k h0, if_neg (not_not_intro rfl), if_neg (not_not_intro rfl), if_neg (show ¬ (true = false) from Bool.noConfusion), if_neg (show ¬ (true = false) from Bool.noConfusion), Int.toNat_natCast, Int.toNat_natCast]
  by_cases hok : okT (r.D off) = false
  · rw [if_pos hok, if_pos hok]
  · rw [if_neg hok, if_neg hok]
    have hs := sg_b r.nb.toNat r.nm.toNat k (show b < 6 by omega)
    have := Rnd.turn_tell hv k h0 (by simpa using hok) (a := 1 + b) (by omega) (by rw [hs]; omega) (by rw [hs, ta_b _ _ _ (by omega), unrot_rot k (by omega)]) true
    rw [hs] at this
    exact this
theorem Rnd.turn_error {r : Rnd} (hv : r.valid = true) (k : Nat) {off : Int} (hm : -1 ≤ off) (h0 : off < r.nb) {b : Nat} (hb : (b : Int) < r.nm) : r.error off b = (r.turn k).error (ownI r.nb.toNat k off) (rot r.nm.toNat (k / 3) b : Nat) := by
  have hh := Rnd.valid_head hv
  have hrb := rot_lt (n := r.nm.toNat) (by omega) (k / 3) b
  have hro := ownI_range (nb := r.nb.toNat) (k := k) (by omega) hm
  have e1 := err_of hv hm h0
  have e2 : (r.turn k).err (ownI r.nb.toNat k off) = 0 := err_of (Rnd.turn_valid hv k) hro.1 (show ownI r.nb.toNat k off < r.nb by omega)
  have w1 : withinB (b : Int) 0 (r.nm - 1) = true := decide_eq_true (by omega)
  have w2 : withinB ((rot r.nm.toNat (k / 3) b : Nat) : Int) 0 ((r.turn k).nm - 1) = true := decide_eq_true (show (0 : Int) ≤ _ ∧ _ ≤ r.nm - 1 by omega)
  unfold Rnd.error Rnd.tell
  rw [e1, e2, w1, w2, Rnd.turn_ok hv k h0, if_neg (not_not_intro rfl), if_neg (not_not_intro rfl), if_neg (show ¬ (true = false) from Bool.noConfusion), if_neg (show ¬ (true = false) from Bool.noConfusion), Int.toNat_natCast, Int.toNat_natCast]
  by_cases hok : okT (r.D off) = false
  · rw [if_pos hok, if_pos hok]
  · rw [if_neg hok, if_neg hok]
    have hs := sg_m r.nb.toNat r.nm.toNat k b
    have := Rnd.turn_tell hv k h0 (by simpa using hok) (a := 7 + b) (by omega) (by rw [hs]; omega) (by rw [hs, ta_m, unrot_rot (k / 3) (by omega)]) false
    rw [hs] at this
    exact this
theorem Rnd.turn_fits {r : Rnd} (hv : r.valid = true) (k : Nat) {off : Int} (hm : -1 ≤ off) (h0 : off < r.nb) : r.fitsB off = (r.turn k).fitsB (ownI r.nb.toNat k off) := by
  have hh := Rnd.valid_head hv
  have hro := ownI_range (nb := r.nb.toNat) (k := k) (by omega) hm
  have e1 := err_of hv hm h0
  have e2 : (r.turn k).err (ownI r.nb.toNat k off) = 0 := err_of (Rnd.turn_valid hv k) hro.1 (show ownI r.nb.toNat k off < r.nb by omega)
  unfold Rnd.fitsB
  rw [e1, e2, Rnd.turn_ok hv k h0]
/-- what a row of suspects tells: none, one, or more -/
theorem pick_turn {l m : List Nat} {B : Nat → Nat} (hl : l.Pairwise (· < ·)) (hm : m.Pairwise (· < ·)) (h1 : ∀ c, c ∈ l → B c ∈ m) (h2 : ∀ d, d ∈ m → ∃ c, c ∈ l ∧ B c = d) (hi : ∀ c d, c ∈ l → d ∈ l → B c = B d → c = d) :
    (pickS l).2 = (pickS m).2 ∧ ((pickS l).2 = 0 → ∃ c : Nat, (pickS l).1 = (c : Int) ∧ c ∈ l ∧ (pickS m).1 = ((B c : Nat) : Int)) := by
  match l, m, hl, hm, h1, h2, hi with
  | [], [], _, _, _, _, _ => exact ⟨rfl, fun h => by cases h⟩
  | [], d :: m, _, _, _, h2, _ => obtain ⟨c, hc, _⟩ := h2 d (by simp); cases hc
  | c :: l, [], _, _, h1, _, _ => exact absurd (h1 c (by simp)) (by simp)
  | [c], [d], _, _, h1, _, _ =>
    have := h1 c (by simp)
    rw [List.mem_singleton] at this
    exact ⟨rfl, fun _ => ⟨c, rfl, by simp, by rw [this]; rfl⟩⟩
  | [c], d :: e :: m, _, hm, _, h2, _ =>
    obtain ⟨c1, hc1, e1⟩ := h2 d (by simp)
    obtain ⟨c2, hc2, e2⟩ := h2 e (by simp)
    rw [List.mem_singleton] at hc1 hc2
    rw [List.pairwise_cons] at hm
    have := hm.1 e (by simp)
    rw [hc1] at e1
    rw [hc2] at e2
    omega
  | c :: d :: l, [e], hl, _, h1, _, hi =>
    have e1 := h1 c (by simp)
    have e2 := h1 d (by simp)
    rw [List.mem_singleton] at e1 e2
    have := hi c d (by simp) (by simp) (e1.trans e2.symm)
    rw [List.pairwise_cons] at hl
    have := hl.1 d (by simp)
    omega
  | _ :: _ :: _, _ :: _ :: _, _, _, _, _, _ => exact ⟨rfl, fun h => by cases h⟩
theorem Rnd.susp_mem {r : Rnd} {n b : Nat} : b ∈ r.susp n ↔ b < n ∧ okT (r.D (b : Nat)) = true := by unfold Rnd.susp; rw [List.mem_filter, List.mem_range]
theorem Rnd.turn_convict {r : Rnd} (hv : r.valid = true) (k : Nat) : r.convict.2 = (r.turn k).convict.2 ∧ (r.convict.2 = 0 → ∃ c : Nat, c < r.nb.toNat ∧ r.convict.1 = (c : Int) ∧ (r.turn k).convict.1 = ((rot r.nb.toNat k c : Nat) : Int)) := by
  have hh := Rnd.valid_head hv
  have e1 : r.err (-1) = 0 := err_of hv (by omega) (by omega)
  have e2 : (r.turn k).err (-1) = 0 := err_of (Rnd.turn_valid hv k) (by omega) (show -1 < r.nb by omega)
  have e0 : ownI r.nb.toNat k (-1) = -1 := by unfold ownI; rw [if_neg (by omega)]
  have e3 : okT ((r.turn k).D (-1)) = okT (r.D (-1)) := by
    have h9 := Rnd.turn_ok hv k (off := -1) (by omega)
    rw [e0] at h9
    exact h9
  have e4 : ∀ b : Nat, b < r.nb.toNat → okT ((r.turn k).D ((rot r.nb.toNat k b : Nat) : Int)) = okT (r.D (b : Nat)) := fun b hb => by
    have h9 := Rnd.turn_ok hv k (off := (b : Int)) (by omega)
    unfold ownI at h9
    rw [if_pos (by omega), Int.toNat_natCast] at h9
    exact h9
  have eB : (r.turn k).nb.toNat = r.nb.toNat := rfl
  unfold Rnd.convict
  rw [e1, e2, e3, if_neg (not_not_intro rfl), if_neg (not_not_intro rfl), eB]
  by_cases hok : okT (r.D (-1)) = true
  · rw [if_pos hok, if_pos hok]
    exact ⟨rfl, fun h => absurd h (show ¬ ((4 : Int) = 0) by decide)⟩
  · rw [if_neg hok, if_neg hok]
    have h9 := pick_turn (l := r.susp r.nb.toNat) (m := (r.turn k).susp r.nb.toNat) (B := rot r.nb.toNat k) (List.Pairwise.filter _ List.pairwise_lt_range) (List.Pairwise.filter _ List.pairwise_lt_range)
      (fun c hc => by
        rw [Rnd.susp_mem] at hc ⊢
        exact ⟨rot_lt (by omega) _ _, by rw [e4 c hc.1]; exact hc.2⟩)
      (fun d hd => by
        rw [Rnd.susp_mem] at hd
        refine ⟨unrot r.nb.toNat k d, ?_, rot_unrot k hd.1⟩
        rw [Rnd.susp_mem]
        refine ⟨unrot_lt k hd.1, ?_⟩
        have h8 := e4 (unrot r.nb.toNat k d) (unrot_lt k hd.1)
        rw [rot_unrot k hd.1] at h8
        rw [← h8]; exact hd.2)
      (fun c d hc hd e => by rw [Rnd.susp_mem] at hc hd; exact rot_inj hc.1 hd.1 e)
    refine ⟨h9.1, fun h => ?_⟩
    obtain ⟨c, p1, p2, p3⟩ := h9.2 h
    rw [Rnd.susp_mem] at p2
    exact ⟨c, p2.1, p1, p3⟩
end Go.Proofs.YtldodmfmibeoiaaDoor
