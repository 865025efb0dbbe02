/- Zone, plain: the document's narrowing: families of spans that are at rest; the greatest one is the losses. -/
import Derived.Test.YtipnaeijbbbdoaaP3
namespace Go.Proofs.Ytipnaeijbbbdoaa
open Go.RowKit
/-- spans of a zone and of all below it that are at rest -/
structure Fam (z : Nat → Zon) (n q : Nat) (t : Nat → Spn) : Prop where
  own : ∀ i, i < n → Und z q i → (z i).own.lo ≤ (t i).lo ∧ (t i).lo ≤ (t i).hi ∧ (t i).hi ≤ (z i).own.hi
  sum : ∀ i, i < n → Und z q i → kidsTo z i n ≠ [] → sumL (fun c => (t c).lo) (kidsTo z i n) ≤ (t i).lo ∧ (t i).hi ≤ sumL (fun c => (t c).hi) (kidsTo z i n)
  kid : ∀ i, i < n → Und z q i → ∀ c ∈ kidsTo z i n, (t i).lo - (sumL (fun c => (t c).hi) (kidsTo z i n) - (t c).hi) ≤ (t c).lo ∧ (t c).hi ≤ (t i).hi - (sumL (fun c => (t c).lo) (kidsTo z i n) - (t c).lo)
/-- one family of spans lies within another one, below a zone -/
def Wthn (z : Nat → Zon) (n q : Nat) (t s : Nat → Spn) : Prop := ∀ i, i < n → Und z q i → (s i).lo ≤ (t i).lo ∧ (t i).hi ≤ (s i).hi
theorem und_kid {z : Nat → Zon} {n q i c : Nat} (h : Und z q i) (hc : c ∈ kidsTo z i n) : Und z q c := h.trans (Und.kid hc)
theorem Fam.stepA {z : Nat → Zon} {n q i : Nat} {t s : Nat → Spn} (hz : Tree z n) (h : Fam z n q t) (hs : Wthn z n q t s) (hi : i < n) (hu : Und z q i) (hne : kidsTo z i n ≠ []) :
    max (s i).lo (sumL (fun c => (s c).lo) (kidsTo z i n)) ≤ (t i).lo ∧ (t i).hi ≤ min (s i).hi (sumL (fun c => (s c).hi) (kidsTo z i n)) := by
  have h1 := h.sum i hi hu hne
  have h2 := hs i hi hu
  have l1 := sumL_le (f := fun c => (s c).lo) (g := fun c => (t c).lo) (l := kidsTo z i n) fun c hc => (hs c (kid_gt hz hc).2.1 (und_kid hu hc)).1
  have l2 := sumL_le (f := fun c => (t c).hi) (g := fun c => (s c).hi) (l := kidsTo z i n) fun c hc => (hs c (kid_gt hz hc).2.1 (und_kid hu hc)).2
  omega
theorem Fam.stepB {z : Nat → Zon} {n q i c : Nat} {t s : Nat → Spn} (hz : Tree z n) (h : Fam z n q t) (hs : Wthn z n q t s) (hi : i < n) (hu : Und z q i) (hc : c ∈ kidsTo z i n) :
    max (s c).lo ((s i).lo - (sumL (fun c => (s c).hi) (kidsTo z i n) - (s c).hi)) ≤ (t c).lo ∧ (t c).hi ≤ min (s c).hi ((s i).hi - (sumL (fun c => (s c).lo) (kidsTo z i n) - (s c).lo)) := by
  have h1 := h.kid i hi hu c hc
  have h2 := hs i hi hu
  have h3 := hs c (kid_gt hz hc).2.1 (und_kid hu hc)
  have l1 := sumL_one (f := fun c => (s c).lo) (g := fun c => (t c).lo) hc fun c hc => (hs c (kid_gt hz hc).2.1 (und_kid hu hc)).1
  have l2 := sumL_one (f := fun c => (t c).hi) (g := fun c => (s c).hi) hc fun c hc => (hs c (kid_gt hz hc).2.1 (und_kid hu hc)).2
  omega
/-- what is at rest lies within what is found from below -/
theorem Fam.up {z : Nat → Zon} {n q : Nat} {t : Nat → Spn} (hz : Tree z n) (h : Fam z n q t) : ∀ i, i < n → Und z q i → (rs z n i).isSome = true ∧ (S z n i).lo ≤ (t i).lo ∧ (t i).hi ≤ (S z n i).hi := by
  refine down_ind fun i hi ih hu => ?_
  have ho := h.own i hi hu
  have hk : ∀ c ∈ kidsTo z i n, (rs z n c).isSome = true ∧ (S z n c).lo ≤ (t c).lo ∧ (t c).hi ≤ (S z n c).hi := fun c hc => ih c (kid_gt hz hc).1 (kid_gt hz hc).2.1 (und_kid hu hc)
  by_cases hne : kidsTo z i n = []
  · have h1 : (rs z n i).isSome = true := rs_mk hz hi (by omega) (fun c hc => (hk c hc).1) fun h => absurd hne h
    rw [S_lo0 hz hi h1 hne]
    exact ⟨h1, ho.1, ho.2.2⟩
  · have l1 := sumL_le (f := fun c => (S z n c).lo) (g := fun c => (t c).lo) (l := kidsTo z i n) fun c hc => (hk c hc).2.1
    have l2 := sumL_le (f := fun c => (t c).hi) (g := fun c => (S z n c).hi) (l := kidsTo z i n) fun c hc => (hk c hc).2.2
    have e := h.sum i hi hu hne
    have h1 : (rs z n i).isSome = true := rs_mk hz hi (by omega) (fun c hc => (hk c hc).1) fun _ => by omega
    obtain ⟨f1, f2⟩ := S_lo hz hi h1 hne
    exact ⟨h1, by omega, by omega⟩
theorem Fam.dn {z : Nat → Zon} {n q : Nat} {t : Nat → Spn} (hz : Tree z n) (h : Fam z n q t) (hq : (z q).p = -1) : ∀ i, i < n → Und z q i → (dnF z n i).lo ≤ (t i).lo ∧ (t i).hi ≤ (dnF z n i).hi := by
  intro i
  have hup := h.up hz
  induction i using Nat.strongRecOn with
  | _ i ih =>
    intro hi hu
    have h0 := hz i hi
    have hs := hup i hi hu
    by_cases h1 : (z i).p = -1
    · rw [dnF_top h1]; exact hs.2
    · obtain ⟨c, hc⟩ : ∃ c : Nat, (z i).p = (c : Int) := ⟨(z i).p.toNat, by omega⟩
      have hcn : c < n := by omega
      have hcu : Und z q c := by
        cases hu with
        | refl => exact absurd hq h1
        | @up _ d hp2 hu =>
          have e : c = d := by rw [hc] at hp2; omega
          rw [e]; exact hu
      have hkm : i ∈ kidsTo z c n := mem_kidsTo.2 ⟨hi, hc⟩
      have hd := ih c (by omega) hcn hcu
      have l1 := sumL_one (f := fun c => (S z n c).lo) (g := fun c => (t c).lo) hkm fun b hb => (hup b (kid_gt hz hb).2.1 (und_kid hcu hb)).2.1
      have l2 := sumL_one (f := fun c => (t c).hi) (g := fun c => (S z n c).hi) hkm fun b hb => (hup b (kid_gt hz hb).2.1 (und_kid hcu hb)).2.2
      have hk := h.kid c hcn hcu i hkm
      rw [dnF_kid hz hi hc]
      simp only [cutS]
      omega
/-- the losses of a top zone have numbers, if they have from below -/
theorem top_in {z : Nat → Zon} {n q : Nat} (hz : Tree z n) (hq : (z q).p = -1) (hs : (rs z n q).isSome = true) : ∀ (i : Nat), i < n → Und z q i → (S z n i).lo ≤ (dnF z n i).lo ∧ (dnF z n i).lo ≤ (dnF z n i).hi ∧ (dnF z n i).hi ≤ (S z n i).hi := by
  intro i
  have hall : ∀ i, i < n → Und z q i → (rs z n i).isSome = true := fun i hi hu => rs_down hz hu hi hs
  induction i using Nat.strongRecOn with
  | _ i ih =>
    intro hi hu
    have hs := S_in hz hi (hall i hi hu)
    have h0 := hz i hi
    by_cases hp : (z i).p = -1
    · rw [dnF_top hp]; omega
    · obtain ⟨c, hc⟩ : ∃ c : Nat, (z i).p = (c : Int) := ⟨(z i).p.toNat, by omega⟩
      have hcn : c < n := by omega
      have hcu : Und z q c := by
        cases hu with
        | refl => exact absurd hq hp
        | @up _ d hp2 hu =>
          have e : c = d := by rw [hc] at hp2; omega
          rw [e]; exact hu
      have h1 := ih c (by omega) hcn hcu
      have hk : i ∈ kidsTo z c n := mem_kidsTo.2 ⟨hi, hc⟩
      have hne : kidsTo z c n ≠ [] := by intro h; rw [h] at hk; simp at hk
      obtain ⟨h2, h3, h4, h5, h6⟩ := S_spec hz hcn (hall c hcn hcu)
      have hw := sumL_one (f := fun c => (S z n c).lo) (g := fun c => (S z n c).hi) hk fun c hc => (S_in hz (kid_gt hz hc).2.1 (h3 c hc)).2.1
      obtain ⟨e1, e2⟩ := S_lo hz hcn (hall c hcn hcu) hne
      rw [dnF_kid hz hi hc]
      simp only [cutS]
      omega
theorem top_fam {z : Nat → Zon} {n q : Nat} (hz : Tree z n) (hq : (z q).p = -1) (hs : (rs z n q).isSome = true) : Fam z n q (dnF z n) := by
  have hall : ∀ i, i < n → Und z q i → (rs z n i).isSome = true := fun i hi hu => rs_down hz hu hi hs
  have hin := top_in hz hq hs
  have nar : ∀ i, i < n → Und z q i → kidsTo z i n ≠ [] → Nar (kidsTo z i n) (fun c => (S z n c).lo) (fun c => (S z n c).hi) (dnF z n i).lo (dnF z n i).hi := fun i hi hu hne => by
    obtain ⟨h2, h3, h4, h5, h6⟩ := S_spec hz hi (hall i hi hu)
    have h8 := hin i hi hu
    obtain ⟨e1, e2⟩ := S_lo hz hi (hall i hi hu) hne
    exact ⟨fun c hc => (S_in hz (kid_gt hz hc).2.1 (h3 c hc)).2.1, h8.2.1, by omega, by omega⟩
  refine ⟨fun i hi hu => ?_, fun i hi hu hne => ?_, fun i hi hu c hc => ?_⟩
  · have h1 := hin i hi hu
    have h2 := S_in hz hi (hall i hi hu)
    omega
  · have h := (nar i hi hu hne).D
    rw [sumL_congr (fun c hc => (dn_lo hz hc).1), sumL_congr (f := fun c => (dnF z n c).hi) (fun c hc => (dn_lo hz hc).2)]
    exact h
  · have hne : kidsTo z i n ≠ [] := by intro h; rw [h] at hc; simp at hc
    have h := (nar i hi hu hne).U hc
    rw [sumL_congr (fun c hc => (dn_lo hz hc).2), sumL_congr (f := fun c => (dnF z n c).lo) (fun c hc => (dn_lo hz hc).1), (dn_lo hz hc).1, (dn_lo hz hc).2]
    exact h
/-- the zones, of which q is made one of none -/
def offZ (z : Nat → Zon) (q : Nat) : Nat → Zon := fun i => if i = q then ⟨(z i).i, (z i).m, (z i).e, (z i).l, -1⟩ else z i
theorem offZ_own (z : Nat → Zon) (q i : Nat) : (offZ z q i).own = (z i).own := by
  unfold offZ; split <;> rfl
theorem offZ_tree {z : Nat → Zon} {n q : Nat} (hz : Tree z n) : Tree (offZ z q) n := fun c hc => by
  unfold offZ
  split
  · simp only; omega
  · exact hz c hc
theorem offZ_kids {z : Nat → Zon} {n q i : Nat} (hz : Tree z n) (hqn : q < n) (hi : q ≤ i) : kidsTo (offZ z q) i n = kidsTo z i n := by
  unfold kidsTo
  refine List.filter_congr fun c hc => ?_
  have hcn : c < n := by simpa using hc
  unfold offZ
  split
  · rename_i h
    subst h
    have := (hz c hcn).2
    simp only [decide_eq_decide]
    omega
  · rfl
theorem offZ_und {z : Nat → Zon} {n q i : Nat} (hz : Tree z n) : i < n → Und z q i → Und (offZ z q) q i := by
  intro hi hu
  induction hu with
  | refl => exact .refl
  | @up j c hp hu ih =>
    have h0 := hz j hi
    have hcl := hu.le hz (by omega)
    refine .up ?_ (ih (by omega))
    unfold offZ
    rw [if_neg (by omega)]
    exact hp
theorem offZ_und' {z : Nat → Zon} {n q i : Nat} (hz : Tree z n) : i < n → Und (offZ z q) q i → Und z q i := by
  intro hi hu
  induction hu with
  | refl => exact .refl
  | @up j c hp hu ih =>
    have h0 := (offZ_tree (q := q) hz) j hi
    refine .up ?_ (ih (by omega))
    unfold offZ at hp
    split at hp
    · simp only at hp; omega
    · exact hp
theorem offZ_rs {z : Nat → Zon} {n q : Nat} (hz : Tree z n) (hqn : q < n) : ∀ i, i < n → q ≤ i → rs (offZ z q) n i = rs z n i := by
  refine down_ind fun i hi ih hq => ?_
  rw [rs_eq (offZ_tree hz) hi, rs_eq hz hi, offZ_own, offZ_kids hz hqn hq]
  exact upStep_congr fun c hc => ih c (kid_gt hz hc).1 (kid_gt hz hc).2.1 (by have := (kid_gt hz hc).1; omega)
/-- there are spans at rest just if there are numbers from below -/
theorem fam_iff {z : Nat → Zon} {n q : Nat} (hz : Tree z n) (hqn : q < n) : (∃ t, Fam z n q t) ↔ (rs z n q).isSome = true := by
  constructor
  · rintro ⟨t, h⟩
    exact (h.up hz q hqn .refl).1
  · intro h
    have h' : (rs (offZ z q) n q).isSome = true := by rw [offZ_rs hz hqn q hqn (Nat.le_refl _)]; exact h
    have hf := top_fam (offZ_tree hz) (show (offZ z q q).p = -1 by unfold offZ; rw [if_pos rfl]) h'
    refine ⟨dnF (offZ z q) n, ⟨fun i hi hu => ?_, fun i hi hu hne => ?_, fun i hi hu c hc => ?_⟩⟩
    · have := hf.own i hi (offZ_und hz hi hu)
      rwa [offZ_own] at this
    · have := hf.sum i hi (offZ_und hz hi hu)
      rw [offZ_kids hz hqn (hu.le hz hi)] at this
      exact this hne
    · have := hf.kid i hi (offZ_und hz hi hu)
      rw [offZ_kids hz hqn (hu.le hz hi)] at this
      exact this c hc
/-- how wide all spans are together -/
def widN (s : Nat → Spn) : Nat → Nat
  | 0 => 0
  | n + 1 => widN s n + ((s n).hi - (s n).lo + 1).toNat
theorem widN_le {s t : Nat → Spn} : ∀ {n : Nat}, (∀ i, i < n → (s i).lo ≤ (t i).lo ∧ (t i).hi ≤ (s i).hi) → widN t n ≤ widN s n
  | 0, _ => Nat.le_refl _
  | n + 1, h => by
    have h1 := widN_le (n := n) fun i hi => h i (by omega)
    have h2 := h n (by omega)
    unfold widN
    omega
theorem widN_lt {s t : Nat → Spn} {k : Nat} : ∀ {n : Nat}, (∀ i, i < n → (s i).lo ≤ (t i).lo ∧ (t i).hi ≤ (s i).hi) → k < n → (s k).lo ≤ (s k).hi → t k ≠ s k → widN t n < widN s n
  | 0, _, hk, _, _ => by omega
  | n + 1, h, hk, hle, hne => by
    have h2 := h n (by omega)
    unfold widN
    by_cases hkn : k = n
    · subst hkn
      have h1 := widN_le (n := k) fun i hi => h i (by omega)
      have h3 : (t k).lo ≠ (s k).lo ∨ (t k).hi ≠ (s k).hi := by
        by_cases e : (t k).lo = (s k).lo
        · right
          intro e2
          apply hne
          generalize t k = a at e e2
          generalize s k = b at e e2
          obtain ⟨a1, a2⟩ := a
          obtain ⟨b1, b2⟩ := b
          simp only at e e2
          rw [e, e2]
        · exact .inl e
      omega
    · have h1 := widN_lt (n := n) (fun i hi => h i (by omega)) (by omega) hle hne
      omega
theorem widN_congr {s t : Nat → Spn} : ∀ {n : Nat}, (∀ i, i < n → s i = t i) → widN s n = widN t n
  | 0, _ => rfl
  | n + 1, h => by
    unfold widN
    rw [widN_congr (n := n) fun i hi => h i (by omega), h n (by omega)]
/-- the sum of all but one -/
def sumB (f : Nat → Int) (l : List Nat) (but : Int) : Int := sumL f (l.filter fun c => decide ((c : Int) ≠ but))
theorem sumB_all {f : Nat → Int} {l : List Nat} : sumB f l (-1) = sumL f l := by
  unfold sumB
  congr 1
  exact List.filter_eq_self.2 fun c _ => decide_eq_true (by omega)
theorem sumB_one {f : Nat → Int} {c : Nat} : ∀ {l : List Nat}, l.Nodup → c ∈ l → sumB f l (c : Int) = sumL f l - f c
  | a :: l, hn, hc => by
    have hn' := List.nodup_cons.1 hn
    unfold sumB
    by_cases h : a = c
    · subst h
      rw [List.filter_cons_of_neg (by simp), sumL_cons]
      have e : l.filter (fun b : Nat => decide ((b : Int) ≠ (a : Int))) = l := List.filter_eq_self.2 fun b hb => decide_eq_true fun e => hn'.1 (by
        have h2 : b = a := by omega
        rw [← h2]; exact hb)
      rw [e]; omega
    · have hc' : c ∈ l := by
        rcases List.mem_cons.1 hc with rfl | h'
        · exact absurd rfl h
        · exact h'
      have ih := sumB_one (f := f) hn'.2 hc'
      unfold sumB at ih
      have e : (a :: l).filter (fun b : Nat => decide ((b : Int) ≠ (c : Int))) = a :: l.filter (fun b : Nat => decide ((b : Int) ≠ (c : Int))) := List.filter_cons_of_pos (by simp; omega)
      rw [e, sumL_cons, sumL_cons, ih]; omega
theorem sumB_snoc_yes {f : Nat → Int} {l : List Nat} {x : Nat} {but : Int} (h : (x : Int) ≠ but) : sumB f (l ++ [x]) but = sumB f l but + f x := by
  unfold sumB
  have e : [x].filter (fun c : Nat => decide ((c : Int) ≠ but)) = [x] := by simp [h]
  rw [List.filter_append, e, sumL_snoc]
theorem sumB_snoc_no {f : Nat → Int} {l : List Nat} {x : Nat} {but : Int} (h : (x : Int) = but) : sumB f (l ++ [x]) but = sumB f l but := by
  unfold sumB
  have e : [x].filter (fun c : Nat => decide ((c : Int) ≠ but)) = [] := by simp [h]
  rw [List.filter_append, e, List.append_nil]
end Go.Proofs.Ytipnaeijbbbdoaa
