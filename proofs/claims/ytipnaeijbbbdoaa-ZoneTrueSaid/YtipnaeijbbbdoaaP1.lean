/- Zone, plain: what can be lost from below (rs), and from above (dnF). -/
import Derived.Test.YtipnaeijbbbdoaaW4
import Derived.Test.YtipnaeijbbbdoaaW5
namespace Go.Proofs.Ytipnaeijbbbdoaa
open Go.RowKit
/-- each zone comes after the one it is a part of -/
def Tree (z : Nat → Zon) (n : Nat) : Prop := ∀ c, c < n → -1 ≤ (z c).p ∧ (z c).p < (c : Int)
def spn (o : Option Spn) : Spn := o.getD ⟨0, 0⟩
def sumL (f : Nat → Int) (l : List Nat) : Int := (l.map f).sum
theorem sumL_nil (f : Nat → Int) : sumL f [] = 0 := rfl
theorem sumL_cons (f : Nat → Int) (a : Nat) (l : List Nat) : sumL f (a :: l) = f a + sumL f l := by simp [sumL]
theorem sumL_snoc (f : Nat → Int) (a : Nat) (l : List Nat) : sumL f (l ++ [a]) = sumL f l + f a := by simp [sumL]
theorem sumL_congr {f g : Nat → Int} : ∀ {l : List Nat}, (∀ c ∈ l, f c = g c) → sumL f l = sumL g l
  | [], _ => rfl
  | a :: l, h => by rw [sumL_cons, sumL_cons, h a (by simp), sumL_congr fun c hc => h c (by simp [hc])]
theorem sumL_le {f g : Nat → Int} : ∀ {l : List Nat}, (∀ c ∈ l, f c ≤ g c) → sumL f l ≤ sumL g l
  | [], _ => Int.le_refl _
  | a :: l, h => by
    have h1 := sumL_le (f := f) (g := g) (l := l) fun c hc => h c (by simp [hc])
    have h2 := h a (by simp)
    rw [sumL_cons, sumL_cons]; omega
/-- one of a list is no wider than all of it -/
theorem sumL_one {f g : Nat → Int} {i : Nat} : ∀ {l : List Nat}, i ∈ l → (∀ c ∈ l, f c ≤ g c) → g i - f i ≤ sumL g l - sumL f l
  | a :: l, hi, h => by
    have h1 := sumL_le (f := f) (g := g) (l := l) fun c hc => h c (by simp [hc])
    have h2 := h a (by simp)
    rw [sumL_cons, sumL_cons]
    rcases List.mem_cons.1 hi with rfl | hi
    · omega
    · have := sumL_one hi fun c hc => h c (by simp [hc])
      omega
theorem sumL_bd {f : Nat → Int} {B : Int} : ∀ {l : List Nat}, (∀ c ∈ l, 0 ≤ f c ∧ f c ≤ B) → 0 ≤ sumL f l ∧ sumL f l ≤ (l.length : Int) * B
  | [], _ => by simp [sumL]
  | a :: l, h => by
    have h1 := sumL_bd (f := f) (B := B) (l := l) fun c hc => h c (by simp [hc])
    have h2 := h a (by simp)
    have h3 : ((a :: l).length : Int) * B = (l.length : Int) * B + B := by simp [Int.add_mul]
    rw [sumL_cons]; omega
theorem sumN_sumL (f : Nat → Int) (l : List Nat) : sumN (fun j => f (l.getD j 0)) l.length = sumL f l := by
  suffices h : ∀ k, k ≤ l.length → sumN (fun j => f (l.getD j 0)) k = sumL f (l.take k) by
    have := h l.length (Nat.le_refl _); rwa [List.take_length] at this
  intro k
  induction k with
  | zero => intro _; rfl
  | succ k ih =>
    intro hk
    have h1 : l.take (k + 1) = l.take k ++ [l.getD k 0] := by
      rw [List.take_add_one]; congr 1
      have : l[k]? = some (l.getD k 0) := by rw [List.getD_eq_getElem?_getD, List.getElem?_eq_getElem (by omega)]; rfl
      rw [this]; rfl
    rw [h1, sumL_snoc]
    simp only [sumN]
    rw [ih (by omega)]
/-- what a zone can lose, by its own span and by its parts -/
def upStep (o : Spn) (ks : List Nat) (f : Nat → Option Spn) : Option Spn :=
  if o.lo ≤ o.hi ∧ ∀ c ∈ ks, (f c).isSome = true then
    (if ks = [] then some o else
      if (cutS o (sumL (fun c => (spn (f c)).lo) ks) (sumL (fun c => (spn (f c)).hi) ks)).lo ≤ (cutS o (sumL (fun c => (spn (f c)).lo) ks) (sumL (fun c => (spn (f c)).hi) ks)).hi
      then some (cutS o (sumL (fun c => (spn (f c)).lo) ks) (sumL (fun c => (spn (f c)).hi) ks)) else none)
  else none
theorem upStep_congr {o : Spn} {ks : List Nat} {f g : Nat → Option Spn} (h : ∀ c ∈ ks, f c = g c) : upStep o ks f = upStep o ks g := by
  have h1 : (∀ c ∈ ks, (f c).isSome = true) ↔ (∀ c ∈ ks, (g c).isSome = true) := ⟨fun k c hc => by rw [← h c hc]; exact k c hc, fun k c hc => by rw [h c hc]; exact k c hc⟩
  have h2 : sumL (fun c => (spn (f c)).lo) ks = sumL (fun c => (spn (g c)).lo) ks := sumL_congr fun c hc => by rw [h c hc]
  have h3 : sumL (fun c => (spn (f c)).hi) ks = sumL (fun c => (spn (g c)).hi) ks := sumL_congr fun c hc => by rw [h c hc]
  unfold upStep
  rw [h2, h3]
  simp only [h1]
def up (z : Nat → Zon) (n : Nat) : Nat → Nat → Option Spn
  | 0, _ => none
  | k + 1, i => upStep (z i).own (kidsTo z i n) (up z n k)
theorem kid_gt {z : Nat → Zon} {n : Nat} (hz : Tree z n) {i c : Nat} (h : c ∈ kidsTo z i n) : i < c ∧ c < n ∧ (z c).p = i := by
  obtain ⟨h1, h2⟩ := mem_kidsTo.1 h
  have := (hz c h1).2
  omega
theorem up_fuel {z : Nat → Zon} {n : Nat} (hz : Tree z n) : ∀ (k k' i : Nat), i < n → n - i ≤ k → n - i ≤ k' → up z n k i = up z n k' i
  | 0, _, i, hi, h, _ => by omega
  | _, 0, i, hi, _, h => by omega
  | k + 1, k' + 1, i, hi, h, h' => by
    simp only [up]
    refine upStep_congr fun c hc => ?_
    have := kid_gt hz hc
    exact up_fuel hz k k' c (by omega) (by omega) (by omega)
/-- what a zone, and all below it, can lose alone -/
def rs (z : Nat → Zon) (n i : Nat) : Option Spn := up z n n i
theorem rs_eq {z : Nat → Zon} {n : Nat} (hz : Tree z n) {i : Nat} (hi : i < n) : rs z n i = upStep (z i).own (kidsTo z i n) (rs z n) := by
  have h1 : rs z n i = up z n (n + 1) i := up_fuel hz _ _ _ hi (by omega) (by omega)
  rw [h1]; rfl
abbrev S (z : Nat → Zon) (n i : Nat) : Spn := spn (rs z n i)
theorem S_some {z : Nat → Zon} {n i : Nat} (h : (rs z n i).isSome = true) : rs z n i = some (S z n i) := by
  obtain ⟨s, hs⟩ := Option.isSome_iff_exists.1 h
  show rs z n i = some (spn (rs z n i))
  rw [hs]; rfl
/-- what is known of it -/
theorem S_spec {z : Nat → Zon} {n : Nat} (hz : Tree z n) {i : Nat} (hi : i < n) (h : (rs z n i).isSome = true) :
    (z i).own.lo ≤ (z i).own.hi ∧ (∀ c ∈ kidsTo z i n, (rs z n c).isSome = true) ∧ (S z n i).lo ≤ (S z n i).hi ∧
    (kidsTo z i n = [] → S z n i = (z i).own) ∧ (kidsTo z i n ≠ [] → S z n i = cutS (z i).own (sumL (fun c => (S z n c).lo) (kidsTo z i n)) (sumL (fun c => (S z n c).hi) (kidsTo z i n))) := by
  have h1 := S_some h
  have h2 := rs_eq hz hi
  rw [h1] at h2
  unfold upStep at h2
  split at h2
  · rename_i hc
    obtain ⟨ho, hk⟩ := hc
    split at h2
    · rename_i he
      have h2 := Option.some.inj h2
      exact ⟨ho, hk, by rw [h2]; exact ho, fun _ => h2, fun h => absurd he h⟩
    · rename_i he
      split at h2
      · rename_i hl
        have h2 := Option.some.inj h2
        exact ⟨ho, hk, by rw [h2]; exact hl, fun h => absurd h he, fun _ => h2⟩
      · cases h2
  · cases h2
theorem S_in {z : Nat → Zon} {n : Nat} (hz : Tree z n) {i : Nat} (hi : i < n) (h : (rs z n i).isSome = true) :
    (z i).own.lo ≤ (S z n i).lo ∧ (S z n i).lo ≤ (S z n i).hi ∧ (S z n i).hi ≤ (z i).own.hi := by
  obtain ⟨h1, h2, h3, h4, h5⟩ := S_spec hz hi h
  by_cases he : kidsTo z i n = []
  · rw [h4 he] at h3 ⊢; omega
  · rw [h5 he] at h3 ⊢; simp only [cutS] at h3 ⊢; omega
/-- a zone is i, or below it -/
inductive Und (z : Nat → Zon) (i : Nat) : Nat → Prop
  | refl : Und z i i
  | up {j c : Nat} : (z j).p = (c : Int) → Und z i c → Und z i j
theorem Und.le {z : Nat → Zon} {n : Nat} (hz : Tree z n) {i j : Nat} (h : Und z i j) : j < n → i ≤ j := by
  induction h with
  | refl => intro _; exact Nat.le_refl _
  | up hp _ ih =>
    intro hj
    have := (hz _ hj).2
    have := ih (by omega)
    omega
theorem Und.trans {z : Nat → Zon} {a b c : Nat} (h1 : Und z a b) (h2 : Und z b c) : Und z a c := by
  induction h2 with
  | refl => exact h1
  | up hp _ ih => exact .up hp ih
theorem Und.kid {z : Nat → Zon} {n : Nat} {i c : Nat} (h : c ∈ kidsTo z i n) : Und z i c := .up (mem_kidsTo.1 h).2 .refl
theorem Und.cases_kid {z : Nat → Zon} {n : Nat} (hz : Tree z n) {i j : Nat} (h : Und z i j) : j < n → j = i ∨ ∃ c ∈ kidsTo z i n, Und z c j := by
  induction h with
  | refl => intro _; exact .inl rfl
  | @up j c hp hu ih =>
    intro hj
    have := (hz _ hj).2
    rcases ih (by omega) with rfl | ⟨d, hd, hud⟩
    · exact .inr ⟨j, mem_kidsTo.2 ⟨hj, hp⟩, .refl⟩
    · exact .inr ⟨d, hd, .up hp hud⟩
theorem rs_down {z : Nat → Zon} {n : Nat} (hz : Tree z n) {i j : Nat} (hu : Und z i j) : j < n → (rs z n i).isSome = true → (rs z n j).isSome = true := by
  induction hu with
  | refl => exact fun _ h => h
  | @up j c hp _ ih =>
    intro hj h
    have h0 := (hz _ hj).2
    exact (S_spec hz (by omega) (ih (by omega) h)).2.1 j (mem_kidsTo.2 ⟨hj, hp⟩)
/-- the losses made narrower from above -/
def dn (z : Nat → Zon) (n : Nat) : Nat → Nat → Spn
  | 0, i => S z n i
  | k + 1, i => if 0 ≤ (z i).p then cutS (S z n i) ((dn z n k (z i).p.toNat).lo - (sumL (fun c => (S z n c).hi) (kidsTo z (z i).p n) - (S z n i).hi)) ((dn z n k (z i).p.toNat).hi - (sumL (fun c => (S z n c).lo) (kidsTo z (z i).p n) - (S z n i).lo)) else S z n i
theorem dn_fuel {z : Nat → Zon} {n : Nat} (hz : Tree z n) : ∀ (k k' i : Nat), i < n → i ≤ k → i ≤ k' → dn z n k i = dn z n k' i
  | 0, 0, _, _, _, _ => rfl
  | 0, k' + 1, i, hi, h, _ => by
    obtain rfl : i = 0 := by omega
    have := (hz 0 hi).2
    simp only [dn]; rw [if_neg (by omega)]
  | k + 1, 0, i, hi, _, h => by
    obtain rfl : i = 0 := by omega
    have := (hz 0 hi).2
    simp only [dn]; rw [if_neg (by omega)]
  | k + 1, k' + 1, i, hi, h, h' => by
    simp only [dn]
    by_cases h0 : 0 ≤ (z i).p
    · have := (hz i hi).2
      rw [dn_fuel hz k k' (z i).p.toNat (by omega) (by omega) (by omega)]
    · rw [if_neg h0, if_neg h0]
def dnF (z : Nat → Zon) (n i : Nat) : Spn := dn z n n i
theorem dnF_top {z : Nat → Zon} {n i : Nat} (h : (z i).p = -1) : dnF z n i = S z n i := by
  unfold dnF
  cases n with
  | zero => rfl
  | succ n => simp only [dn]; rw [if_neg (by omega)]
theorem dnF_kid {z : Nat → Zon} {n : Nat} (hz : Tree z n) {i q : Nat} (hi : i < n) (h : (z i).p = (q : Int)) :
    dnF z n i = cutS (S z n i) ((dnF z n q).lo - (sumL (fun c => (S z n c).hi) (kidsTo z q n) - (S z n i).hi)) ((dnF z n q).hi - (sumL (fun c => (S z n c).lo) (kidsTo z q n) - (S z n i).lo)) := by
  have h1 : dnF z n i = dn z n (n + 1) i := dn_fuel hz _ _ _ hi (by omega) (by omega)
  rw [h1]
  simp only [dn]
  rw [if_pos (by omega), h]
  rfl
theorem cutS_spec (a : Spn) (lo hi : Int) : (cutS a lo hi).lo = max a.lo lo ∧ (cutS a lo hi).hi = min a.hi hi := ⟨rfl, rfl⟩
/-- it has numbers, which lie within those from below -/
theorem dnF_in {z : Nat → Zon} {n : Nat} (hz : Tree z n) (hall : ∀ i, i < n → (rs z n i).isSome = true) : ∀ (i : Nat), i < n → (S z n i).lo ≤ (dnF z n i).lo ∧ (dnF z n i).lo ≤ (dnF z n i).hi ∧ (dnF z n i).hi ≤ (S z n i).hi := by
  intro i
  induction i using Nat.strongRecOn with
  | _ i ih =>
    intro hi
    have hs := S_in hz hi (hall i hi)
    have h0 := hz i hi
    by_cases hp : (z i).p = -1
    · rw [dnF_top hp]; omega
    · obtain ⟨q, hq⟩ : ∃ q : Nat, (z i).p = (q : Int) := ⟨(z i).p.toNat, by omega⟩
      have hqn : q < n := by omega
      have h1 := ih q (by omega) hqn
      have hk : i ∈ kidsTo z q n := mem_kidsTo.2 ⟨hi, hq⟩
      have hne : kidsTo z q n ≠ [] := by intro h; rw [h] at hk; simp at hk
      obtain ⟨h2, h3, h4, h5, h6⟩ := S_spec hz hqn (hall q hqn)
      have h7 := h6 hne
      have hw := sumL_one (f := fun c => (S z n c).lo) (g := fun c => (S z n c).hi) hk fun c hc => (S_in hz (kid_gt hz hc).2.1 (h3 c hc)).2.1
      rw [dnF_kid hz hi hq]
      have e1 := congrArg Spn.lo h7
      have e2 := congrArg Spn.hi h7
      obtain ⟨L, hL⟩ : ∃ L, L = sumL (fun c => (S z n c).lo) (kidsTo z q n) := ⟨_, rfl⟩
      obtain ⟨H, hH⟩ : ∃ H, H = sumL (fun c => (S z n c).hi) (kidsTo z q n) := ⟨_, rfl⟩
      rw [← hL, ← hH] at hw e1 e2 ⊢
      simp only [cutS] at e1 e2 ⊢
      generalize S z n i = s at *
      generalize S z n q = sq at *
      generalize dnF z n q = d at *
      clear hL hH h7 h6 h5 h3 ih
      omega
end Go.Proofs.Ytipnaeijbbbdoaa
