/- Zone, plain: narrower zones have narrower losses; a truth is within all losses; a zone that has just some loss of its own. -/
import Derived.Test.YtipnaeijbbbdoaaL0
namespace Go.Proofs.Ytipnaeijbbbdoaa
open Go.RowKit
theorem kids_same {z z' : Nat → Zon} {n : Nat} (h : ∀ j, j < n → (z' j).p = (z j).p) (q : Int) : ∀ k, k ≤ n → kidsTo z' q k = kidsTo z q k := by
  intro k hk
  unfold kidsTo
  refine List.filter_congr fun i hi => ?_
  rw [h i (by have := List.mem_range.1 hi; omega)]
theorem tree_same {z z' : Nat → Zon} {n : Nat} (h : ∀ j, j < n → (z' j).p = (z j).p) (hz : Tree z n) : Tree z' n := fun c hc => by rw [h c hc]; exact hz c hc
theorem kids_nodup (z : Nat → Zon) (q : Int) (k : Nat) : (kidsTo z q k).Nodup := List.Pairwise.filter _ List.nodup_range
/-- a zone has numbers if its own span and its parts do -/
theorem rs_mk {z : Nat → Zon} {n : Nat} (hz : Tree z n) {i : Nat} (hi : i < n) (ho : (z i).own.lo ≤ (z i).own.hi) (hk : ∀ c ∈ kidsTo z i n, (rs z n c).isSome = true)
    (hc : kidsTo z i n ≠ [] → max (z i).own.lo (sumL (fun c => (S z n c).lo) (kidsTo z i n)) ≤ min (z i).own.hi (sumL (fun c => (S z n c).hi) (kidsTo z i n))) : (rs z n i).isSome = true := by
  rw [rs_eq hz hi]
  unfold upStep
  rw [if_pos ⟨ho, hk⟩]
  split
  · rfl
  · rename_i he
    split
    · rfl
    · rename_i hx
      exact absurd (hc he) hx
theorem S_lo {z : Nat → Zon} {n : Nat} (hz : Tree z n) {i : Nat} (hi : i < n) (h : (rs z n i).isSome = true) (hne : kidsTo z i n ≠ []) :
    (S z n i).lo = max (z i).own.lo (sumL (fun c => (S z n c).lo) (kidsTo z i n)) ∧ (S z n i).hi = min (z i).own.hi (sumL (fun c => (S z n c).hi) (kidsTo z i n)) := by
  rw [(S_spec hz hi h).2.2.2.2 hne]
  exact ⟨rfl, rfl⟩
theorem S_lo0 {z : Nat → Zon} {n : Nat} (hz : Tree z n) {i : Nat} (hi : i < n) (h : (rs z n i).isSome = true) (hne : kidsTo z i n = []) : S z n i = (z i).own := (S_spec hz hi h).2.2.2.1 hne
/-- from the last zone to the first -/
theorem down_ind {n : Nat} {P : Nat → Prop} (h : ∀ i, i < n → (∀ c, i < c → c < n → P c) → P i) : ∀ i, i < n → P i := by
  suffices key : ∀ k i, i < n → n - i ≤ k → P i from fun i hi => key (n - i) i hi (Nat.le_refl _)
  intro k
  induction k with
  | zero => intro i hi h0; omega
  | succ k ih => exact fun i hi h0 => h i hi fun c hc hcn => ih c hcn (by omega)
/-- narrower own spans: from below -/
theorem mono_up {z z' : Nat → Zon} {n : Nat} (hz : Tree z n) (hp : ∀ j, j < n → (z' j).p = (z j).p) (ho : ∀ j, j < n → (z j).own.lo ≤ (z' j).own.lo ∧ (z' j).own.hi ≤ (z j).own.hi) :
    ∀ i, i < n → (rs z' n i).isSome = true → (rs z n i).isSome = true ∧ (S z n i).lo ≤ (S z' n i).lo ∧ (S z' n i).hi ≤ (S z n i).hi := by
  have hz' := tree_same hp hz
  refine down_ind fun i hi ih h => ?_
  have hk := kids_same hp (i : Int) n (Nat.le_refl _)
  obtain ⟨s1, s2, s3, s4, s5⟩ := S_spec hz' hi h
  have hs := S_in hz' hi h
  have hoi := ho i hi
  rw [hk] at s2 s4 s5
  have hkk : ∀ c ∈ kidsTo z i n, (rs z n c).isSome = true ∧ (S z n c).lo ≤ (S z' n c).lo ∧ (S z' n c).hi ≤ (S z n c).hi := fun c hc => ih c (kid_gt hz hc).1 (kid_gt hz hc).2.1 (s2 c hc)
  by_cases hne : kidsTo z i n = []
  · have h1 : (rs z n i).isSome = true := rs_mk hz hi (by omega) (fun c hc => (hkk c hc).1) fun h => absurd hne h
    rw [s4 hne, S_lo0 hz hi h1 hne]
    exact ⟨h1, by omega, by omega⟩
  · have l1 := sumL_le (f := fun c => (S z n c).lo) (g := fun c => (S z' n c).lo) (l := kidsTo z i n) fun c hc => (hkk c hc).2.1
    have l2 := sumL_le (f := fun c => (S z' n c).hi) (g := fun c => (S z n c).hi) (l := kidsTo z i n) fun c hc => (hkk c hc).2.2
    have e := s5 hne
    have e1 := congrArg Spn.lo e
    have e2 := congrArg Spn.hi e
    simp only [cutS] at e1 e2
    have h1 : (rs z n i).isSome = true := rs_mk hz hi (by omega) (fun c hc => (hkk c hc).1) fun _ => by omega
    obtain ⟨f1, f2⟩ := S_lo hz hi h1 hne
    exact ⟨h1, by omega, by omega⟩
/-- and from above -/
theorem mono_dn {z z' : Nat → Zon} {n : Nat} (hz : Tree z n) (hp : ∀ j, j < n → (z' j).p = (z j).p) (ho : ∀ j, j < n → (z j).own.lo ≤ (z' j).own.lo ∧ (z' j).own.hi ≤ (z j).own.hi)
    (hall : AllR z' n) : AllR z n ∧ ∀ i, i < n → (dnF z n i).lo ≤ (dnF z' n i).lo ∧ (dnF z' n i).hi ≤ (dnF z n i).hi := by
  have hz' := tree_same hp hz
  have hup := fun i hi => mono_up hz hp ho i hi (hall i hi)
  refine ⟨fun i hi => (hup i hi).1, fun i => ?_⟩
  induction i using Nat.strongRecOn with
  | _ i ih =>
    intro hi
    have h0 := hz i hi
    have hu := hup i hi
    by_cases h1 : (z i).p = -1
    · rw [dnF_top h1, dnF_top (by rw [hp i hi]; exact h1)]
      exact hu.2
    · obtain ⟨q, hq⟩ : ∃ q : Nat, (z i).p = (q : Int) := ⟨(z i).p.toNat, by omega⟩
      have hqn : q < n := by omega
      have hk := kids_same hp (q : Int) n (Nat.le_refl _)
      have hkm : i ∈ kidsTo z q n := mem_kidsTo.2 ⟨hi, hq⟩
      have hd := ih q (by omega) hqn
      have l1 := sumL_one (f := fun c => (S z n c).lo) (g := fun c => (S z' n c).lo) hkm fun c hc => (hup c (kid_gt hz hc).2.1).2.1
      have l2 := sumL_one (f := fun c => (S z' n c).hi) (g := fun c => (S z n c).hi) hkm fun c hc => (hup c (kid_gt hz hc).2.1).2.2
      rw [dnF_kid hz hi hq, dnF_kid hz' hi (by rw [hp i hi]; exact hq), hk]
      simp only [cutS]
      omega
/-- a truth: what each zone loses is within its own span, and what its parts lose together -/
structure Tru (z : Nat → Zon) (n : Nat) (t : Nat → Int) : Prop where
  own : ∀ i, i < n → (z i).own.lo ≤ t i ∧ t i ≤ (z i).own.hi
  sum : ∀ i, i < n → kidsTo z i n ≠ [] → t i = sumL t (kidsTo z i n)
theorem Tru.up {z : Nat → Zon} {n : Nat} {t : Nat → Int} (hz : Tree z n) (h : Tru z n t) : ∀ i, i < n → (rs z n i).isSome = true ∧ (S z n i).lo ≤ t i ∧ t i ≤ (S z n i).hi := by
  refine down_ind fun i hi ih => ?_
  have ho := h.own i hi
  have hk : ∀ c ∈ kidsTo z i n, (rs z n c).isSome = true ∧ (S z n c).lo ≤ t c ∧ t c ≤ (S z n c).hi := fun c hc => ih c (kid_gt hz hc).1 (kid_gt hz hc).2.1
  by_cases hne : kidsTo z i n = []
  · have h1 : (rs z n i).isSome = true := rs_mk hz hi (by omega) (fun c hc => (hk c hc).1) fun h => absurd hne h
    rw [S_lo0 hz hi h1 hne]
    exact ⟨h1, ho⟩
  · have l1 := sumL_le (f := fun c => (S z n c).lo) (g := t) (l := kidsTo z i n) fun c hc => (hk c hc).2.1
    have l2 := sumL_le (f := t) (g := fun c => (S z n c).hi) (l := kidsTo z i n) fun c hc => (hk c hc).2.2
    have e := h.sum i hi hne
    have h1 : (rs z n i).isSome = true := rs_mk hz hi (by omega) (fun c hc => (hk c hc).1) fun _ => by omega
    obtain ⟨f1, f2⟩ := S_lo hz hi h1 hne
    exact ⟨h1, by omega, by omega⟩
theorem Tru.dn {z : Nat → Zon} {n : Nat} {t : Nat → Int} (hz : Tree z n) (h : Tru z n t) : ∀ i, i < n → (dnF z n i).lo ≤ t i ∧ t i ≤ (dnF z n i).hi := by
  intro i
  have hup := h.up hz
  induction i using Nat.strongRecOn with
  | _ i ih =>
    intro hi
    have h0 := hz i hi
    have hu := hup i hi
    by_cases h1 : (z i).p = -1
    · rw [dnF_top h1]; exact hu.2
    · obtain ⟨q, hq⟩ : ∃ q : Nat, (z i).p = (q : Int) := ⟨(z i).p.toNat, by omega⟩
      have hqn : q < n := by omega
      have hkm : i ∈ kidsTo z q n := mem_kidsTo.2 ⟨hi, hq⟩
      have hne : kidsTo z q n ≠ [] := by intro h; rw [h] at hkm; simp at hkm
      have hd := ih q (by omega) hqn
      have l1 := sumL_one (f := fun c => (S z n c).lo) (g := t) hkm fun c hc => (hup c (kid_gt hz hc).2.1).2.1
      have l2 := sumL_one (f := t) (g := fun c => (S z n c).hi) hkm fun c hc => (hup c (kid_gt hz hc).2.1).2.2
      have e := h.sum q hqn hne
      rw [dnF_kid hz hi hq]
      simp only [cutS]
      omega
/-- the zones, of which one has just some loss of its own -/
theorem exact_up {z z' : Nat → Zon} {n i : Nat} {v : Int} (hz : Tree z n) (hp : ∀ j, j < n → (z' j).p = (z j).p) (ho : ∀ j, j < n → j ≠ i → (z' j).own = (z j).own) (hi : i < n)
    (hv : (z' i).own = ⟨v, v⟩) (hall : AllR z n) (hd : (dnF z n i).lo ≤ v ∧ v ≤ (dnF z n i).hi) : AllR z' n := by
  have hz' := tree_same hp hz
  suffices key : ∀ j, j < n → (rs z' n j).isSome = true ∧ (¬ Und z j i → rs z' n j = rs z n j) ∧ (Und z j i → ∃ x, (S z' n j).lo ≤ x ∧ x ≤ (S z' n j).hi ∧ (dnF z n j).lo ≤ x ∧ x ≤ (dnF z n j).hi) from fun j hj => (key j hj).1
  refine down_ind fun j hj ih => ?_
  have hk := kids_same hp (j : Int) n (Nat.le_refl _)
  have hkid : ∀ c ∈ kidsTo z j n, j < c ∧ c < n := fun c hc => ⟨(kid_gt hz hc).1, (kid_gt hz hc).2.1⟩
  have hsome : ∀ c ∈ kidsTo z j n, (rs z' n c).isSome = true := fun c hc => (ih c (hkid c hc).1 (hkid c hc).2).1
  by_cases hu : Und z j i
  · have hdj := dnF_in hz hall j hj
    have hsj := S_in hz hj (hall j hj)
    by_cases hji : j = i
    · subst hji
      have hsame : ∀ c ∈ kidsTo z j n, rs z' n c = rs z n c := fun c hc => (ih c (hkid c hc).1 (hkid c hc).2).2.1 fun h => by
        have := h.le hz hj
        have := (hkid c hc).1
        omega
      have hS : ∀ c ∈ kidsTo z j n, S z' n c = S z n c := fun c hc => by show spn _ = spn _; rw [hsame c hc]
      have hvo : (z' j).own.lo = v ∧ (z' j).own.hi = v := by rw [hv]; exact ⟨rfl, rfl⟩
      by_cases hne : kidsTo z j n = []
      · have h1 : (rs z' n j).isSome = true := rs_mk hz' hj (by omega) (by rw [hk]; exact hsome) fun h => by rw [hk] at h; exact absurd hne h
        refine ⟨h1, fun h => absurd hu h, fun _ => ⟨v, ?_, ?_, hd.1, hd.2⟩⟩
        · rw [S_lo0 hz' hj h1 (by rw [hk]; exact hne)]; omega
        · rw [S_lo0 hz' hj h1 (by rw [hk]; exact hne)]; omega
      · obtain ⟨f1, f2⟩ := S_lo hz hj (hall j hj) hne
        have e1 : sumL (fun c => (S z' n c).lo) (kidsTo z j n) = sumL (fun c => (S z n c).lo) (kidsTo z j n) := sumL_congr fun c hc => by rw [hS c hc]
        have e2 : sumL (fun c => (S z' n c).hi) (kidsTo z j n) = sumL (fun c => (S z n c).hi) (kidsTo z j n) := sumL_congr fun c hc => by rw [hS c hc]
        have h1 : (rs z' n j).isSome = true := rs_mk hz' hj (by omega) (by rw [hk]; exact hsome) fun _ => by rw [hk, e1, e2]; omega
        obtain ⟨g1, g2⟩ := S_lo hz' hj h1 (by rw [hk]; exact hne)
        rw [hk, e1] at g1
        rw [hk, e2] at g2
        exact ⟨h1, fun h => absurd hu h, fun _ => ⟨v, by omega, by omega, hd.1, hd.2⟩⟩
    · obtain ⟨c0, hc0, hu0⟩ : ∃ c ∈ kidsTo z j n, Und z c i := by
        rcases hu.cases_kid hz hi with h | h
        · exact absurd h.symm hji
        · exact h
      have hne : kidsTo z j n ≠ [] := by intro h; rw [h] at hc0; simp at hc0
      obtain ⟨x0, x1, x2, x3, x4⟩ := (ih c0 (hkid c0 hc0).1 (hkid c0 hc0).2).2.2 hu0
      have hoth : ∀ c ∈ (kidsTo z j n).erase c0, S z' n c = S z n c := fun c hc => by
        have h1 := (List.Nodup.mem_erase_iff (kids_nodup z j n)).1 hc
        have h2 := (ih c (hkid c h1.2).1 (hkid c h1.2).2).2.1 fun h => h1.1 (Und.kids hz h1.2 hc0 h hu0)
        show spn _ = spn _
        rw [h2]
      have a1 := sumL_erase (f := fun c => (S z' n c).lo) hc0
      have a2 := sumL_erase (f := fun c => (S z' n c).hi) hc0
      have b1 := sumL_erase (f := fun c => (S z n c).lo) hc0
      have b2 := sumL_erase (f := fun c => (S z n c).hi) hc0
      rw [sumL_congr (f := fun c => (S z' n c).lo) (g := fun c => (S z n c).lo) (l := (kidsTo z j n).erase c0) fun c hc => by rw [hoth c hc]] at a1
      rw [sumL_congr (f := fun c => (S z' n c).hi) (g := fun c => (S z n c).hi) (l := (kidsTo z j n).erase c0) fun c hc => by rw [hoth c hc]] at a2
      have w := sumL_le (f := fun c => (S z n c).lo) (g := fun c => (S z n c).hi) (l := (kidsTo z j n).erase c0) fun c hc => (S_in hz (hkid c (List.mem_of_mem_erase hc)).2 (hall c (hkid c (List.mem_of_mem_erase hc)).2)).2.1
      obtain ⟨f1, f2⟩ := S_lo hz hj (hall j hj) hne
      have d0 := dnF_kid hz (hkid c0 hc0).2 (kid_gt hz hc0).2.2
      have d1 := congrArg Spn.lo d0
      have d2 := congrArg Spn.hi d0
      simp only [cutS] at d1 d2
      have hown := ho j hj hji
      have h1 : (rs z' n j).isSome = true := rs_mk hz' hj (by rw [hown]; omega) (by rw [hk]; exact hsome) fun _ => by rw [hk, hown]; omega
      obtain ⟨g1, g2⟩ := S_lo hz' hj h1 (by rw [hk]; exact hne)
      rw [hk, hown] at g1 g2
      exact ⟨h1, fun h => absurd hu h, fun _ => ⟨max (dnF z n j).lo (x0 + sumL (fun c => (S z n c).lo) ((kidsTo z j n).erase c0)), by omega, by omega, by omega, by omega⟩⟩
  · have hji : j ≠ i := fun h => hu (by rw [h]; exact .refl)
    have hsame : ∀ c ∈ kidsTo z j n, rs z' n c = rs z n c := fun c hc => (ih c (hkid c hc).1 (hkid c hc).2).2.1 fun h => hu ((Und.kid hc).trans h)
    have e : rs z' n j = rs z n j := by
      rw [rs_eq hz' hj, rs_eq hz hj, hk, ho j hj hji]
      exact upStep_congr hsame
    exact ⟨by rw [e]; exact hall j hj, fun _ => e, fun h => absurd h hu⟩
/-- with this loss alone there is a truth just if it is within the zone's span -/
theorem exact_iff {z z' : Nat → Zon} {n i : Nat} {v : Int} (hz : Tree z n) (hp : ∀ j, j < n → (z' j).p = (z j).p) (ho : ∀ j, j < n → j ≠ i → (z' j).own = (z j).own) (hi : i < n)
    (hv : (z' i).own = ⟨v, v⟩) (hall : AllR z n) (h1 : (z i).own.lo ≤ v) (h2 : v ≤ (z i).own.hi) : AllR z' n ↔ (dnF z n i).lo ≤ v ∧ v ≤ (dnF z n i).hi := by
  refine ⟨fun h => ?_, exact_up hz hp ho hi hv hall⟩
  have hz' := tree_same hp hz
  have hm := (mono_dn hz hp (fun j hj => by
    by_cases hji : j = i
    · subst hji; rw [hv]; exact ⟨h1, h2⟩
    · rw [ho j hj hji]; omega) h).2 i hi
  have h3 := dnF_in hz' h i hi
  have h4 := S_in hz' hi (h i hi)
  rw [hv] at h4
  simp only at h4
  omega
/-- and then the zone has just this loss -/
theorem exact_dn {z' : Nat → Zon} {n i : Nat} {v : Int} (hz' : Tree z' n) (hi : i < n) (hv : (z' i).own = ⟨v, v⟩) (h : AllR z' n) : dnF z' n i = ⟨v, v⟩ := by
  have h3 := dnF_in hz' h i hi
  have h4 := S_in hz' hi (h i hi)
  rw [hv] at h4
  simp only at h4
  have e1 : (dnF z' n i).lo = v := by omega
  have e2 : (dnF z' n i).hi = v := by omega
  generalize dnF z' n i = s at e1 e2
  obtain ⟨a, b⟩ := s
  simp only at e1 e2
  rw [e1, e2]
end Go.Proofs.Ytipnaeijbbbdoaa
