/- Zone, plain: two zones that are next to each other change places; a zone that is narrower. -/
import Derived.Test.YtipnaeijbbbdoaaF6
namespace Go.Proofs.Ytipnaeijbbbdoaa
open Go.RowKit
theorem sumL_same {f : Nat → Int} : ∀ {l1 l2 : List Nat}, l1.Nodup → l2.Nodup → (∀ a, a ∈ l1 ↔ a ∈ l2) → sumL f l1 = sumL f l2
  | [], l2, _, _, h => by
    cases l2 with
    | nil => rfl
    | cons b l2 => have := (h b).2 (by simp); simp at this
  | a :: l1, l2, h1, h2, h => by
    have ha : a ∈ l2 := (h a).1 (by simp)
    rw [sumL_erase ha, sumL_cons]
    have h1' := List.nodup_cons.1 h1
    congr 1
    refine sumL_same h1'.2 (h2.erase a) fun b => ?_
    rw [h2.mem_erase_iff, ← h b, List.mem_cons]
    constructor
    · intro hb
      exact ⟨fun e => h1'.1 (e ▸ hb), .inr hb⟩
    · rintro ⟨hne, rfl | hb⟩
      · exact absurd rfl hne
      · exact hb
/-- i and the next one change places -/
def sw (i j : Nat) : Nat := if j = i then i + 1 else if j = i + 1 then i else j
theorem sw_sw (i j : Nat) : sw i (sw i j) = j := by
  unfold sw
  by_cases h1 : j = i
  · rw [if_pos h1, if_neg (by omega), if_pos rfl, h1]
  · by_cases h2 : j = i + 1
    · rw [if_neg h1, if_pos h2, if_pos rfl, h2]
    · rw [if_neg h1, if_neg h2, if_neg h1, if_neg h2]
theorem sw_lt {i j n : Nat} (h : i + 1 < n) (hj : j < n) : sw i j < n := by
  unfold sw; split
  · omega
  · split <;> omega
theorem sw_inj {i a b : Nat} (h : sw i a = sw i b) : a = b := by rw [← sw_sw i a, h, sw_sw]
/-- the zones, two of which have changed places -/
structure Swp (i n : Nat) (z y : Nat → Zon) : Prop where
  hi : i + 1 < n
  own : ∀ j, j < n → (y (sw i j)).own = (z j).own
  par : ∀ j, j < n → ∀ q : Nat, (z j).p = (q : Int) ↔ (y (sw i j)).p = (sw i q : Nat)
  top : ∀ j, j < n → (z j).p = -1 → (y (sw i j)).p = -1
theorem Swp.kid {i n : Nat} {z y : Nat → Zon} (h : Swp i n z y) {q c : Nat} : sw i c ∈ kidsTo y (sw i q : Nat) n ↔ c ∈ kidsTo z q n := by
  rw [mem_kidsTo, mem_kidsTo]
  constructor
  · rintro ⟨h1, h2⟩
    have hc : c < n := by have := sw_lt h.hi h1; rw [sw_sw] at this; exact this
    exact ⟨hc, (h.par c hc q).2 h2⟩
  · rintro ⟨h1, h2⟩
    exact ⟨sw_lt h.hi h1, (h.par c h1 q).1 h2⟩
theorem Swp.kid' {i n : Nat} {z y : Nat → Zon} (h : Swp i n z y) {q c : Nat} : c ∈ kidsTo y (sw i q : Nat) n ↔ sw i c ∈ kidsTo z q n := by
  rw [← h.kid, sw_sw]
theorem Swp.sum {i n : Nat} {z y : Nat → Zon} (h : Swp i n z y) (f : Nat → Int) (q : Nat) : sumL f (kidsTo y (sw i q : Nat) n) = sumL (fun c => f (sw i c)) (kidsTo z q n) := by
  have e : sumL (fun c => f (sw i c)) (kidsTo z q n) = sumL f ((kidsTo z q n).map (sw i)) := by
    unfold sumL
    rw [List.map_map]
    rfl
  rw [e]
  refine sumL_same (kids_nodup _ _ _) ?_ fun a => ?_
  · have hp : List.Pairwise (fun a b => sw i a ≠ sw i b) (kidsTo z q n) := List.Pairwise.imp (fun {a b} hab e => hab (sw_inj e)) (kids_nodup z q n)
    exact List.pairwise_map.2 hp
  · rw [h.kid', List.mem_map]
    constructor
    · intro ha
      exact ⟨sw i a, ha, sw_sw i a⟩
    · rintro ⟨c, hc, rfl⟩
      rw [sw_sw]; exact hc
theorem Swp.nil {i n : Nat} {z y : Nat → Zon} (h : Swp i n z y) {q : Nat} : kidsTo y (sw i q : Nat) n = [] ↔ kidsTo z q n = [] := by
  rw [List.eq_nil_iff_forall_not_mem, List.eq_nil_iff_forall_not_mem]
  constructor
  · intro k c hc
    exact k _ (h.kid.2 hc)
  · intro k c hc
    exact k _ (h.kid'.1 hc)
theorem upStep_eq {o : Spn} {ks ks' : List Nat} {f f' : Nat → Option Spn} (h1 : (∀ c ∈ ks, (f c).isSome = true) ↔ (∀ c ∈ ks', (f' c).isSome = true)) (h2 : ks = [] ↔ ks' = [])
    (h3 : sumL (fun c => (spn (f c)).lo) ks = sumL (fun c => (spn (f' c)).lo) ks') (h4 : sumL (fun c => (spn (f c)).hi) ks = sumL (fun c => (spn (f' c)).hi) ks') : upStep o ks f = upStep o ks' f' := by
  unfold upStep
  rw [h3, h4]
  simp only [h1, h2]
theorem Swp.rs {i n : Nat} {z y : Nat → Zon} (h : Swp i n z y) (hz : Tree z n) (hy : Tree y n) : ∀ j, j < n → rs y n (sw i j) = rs z n j := by
  refine down_ind fun j hj ih => ?_
  have hk : ∀ c ∈ kidsTo z j n, Go.Proofs.Ytipnaeijbbbdoaa.rs y n (sw i c) = Go.Proofs.Ytipnaeijbbbdoaa.rs z n c := fun c hc => ih c (kid_gt hz hc).1 (kid_gt hz hc).2.1
  rw [rs_eq hy (sw_lt h.hi hj), rs_eq hz hj, h.own j hj]
  refine upStep_eq ?_ h.nil ?_ ?_
  · constructor
    · intro k c hc
      rw [← hk c hc]
      exact k _ (h.kid.2 hc)
    · intro k c hc
      have h1 := h.kid'.1 hc
      have h2 := hk _ h1
      rw [sw_sw] at h2
      rw [h2]
      exact k _ h1
  · rw [h.sum]
    exact sumL_congr fun c hc => by rw [hk c hc]
  · rw [h.sum]
    exact sumL_congr fun c hc => by rw [hk c hc]
theorem Swp.all {i n : Nat} {z y : Nat → Zon} (h : Swp i n z y) (hz : Tree z n) (hy : Tree y n) : AllR y n ↔ AllR z n := by
  constructor
  · intro k j hj
    rw [← h.rs hz hy j hj]
    exact k _ (sw_lt h.hi hj)
  · intro k j hj
    have := h.rs hz hy (sw i j) (sw_lt h.hi hj)
    rw [sw_sw] at this
    rw [this]
    exact k _ (sw_lt h.hi hj)
theorem Swp.dn {i n : Nat} {z y : Nat → Zon} (h : Swp i n z y) (hz : Tree z n) (hy : Tree y n) : ∀ j, j < n → dnF y n (sw i j) = dnF z n j := by
  intro j
  induction j using Nat.strongRecOn with
  | _ j ih =>
    intro hj
    have h0 := hz j hj
    have hS : ∀ c, c < n → S y n (sw i c) = S z n c := fun c hc => by show spn _ = spn _; rw [h.rs hz hy c hc]
    by_cases h1 : (z j).p = -1
    · rw [dnF_top h1, dnF_top (h.top j hj h1), hS j hj]
    · obtain ⟨q, hq⟩ : ∃ q : Nat, (z j).p = (q : Int) := ⟨(z j).p.toNat, by omega⟩
      have hqn : q < n := by omega
      have hd := ih q (by omega) hqn
      rw [dnF_kid hz hj hq, dnF_kid hy (sw_lt h.hi hj) ((h.par j hj q).1 hq), hd, hS j hj, h.sum, h.sum]
      have e1 : sumL (fun c => (S y n (sw i c)).hi) (kidsTo z q n) = sumL (fun c => (S z n c).hi) (kidsTo z q n) := sumL_congr fun c hc => by rw [hS c (kid_gt hz hc).2.1]
      have e2 : sumL (fun c => (S y n (sw i c)).lo) (kidsTo z q n) = sumL (fun c => (S z n c).lo) (kidsTo z q n) := sumL_congr fun c hc => by rw [hS c (kid_gt hz hc).2.1]
      rw [e1, e2]
/-- the part of a zone, renamed -/
def swP (i : Nat) (p : Int) : Int := if p = (i : Int) then (i : Int) + 1 else if p = (i : Int) + 1 then (i : Int) else p
def Zon.ren (x : Zon) (i : Nat) : Zon := ⟨x.i, x.m, x.e, x.l, swP i x.p⟩
/-- the zones as ZoneMore makes them, of which the first m are renamed -/
def swZ (z : Nat → Zon) (i m : Nat) : Nat → Zon := fun j => if j = i then z (i + 1) else if j = i + 1 then z i else if j < m then (z j).ren i else z j
/-- without a new name nothing changes -/
theorem ren_same {x : Zon} {i : Nat} (h1 : x.p ≠ (i : Int)) (h2 : x.p ≠ (i : Int) + 1) : x.ren i = x := by
  unfold Zon.ren swP
  rw [if_neg h1, if_neg h2]
theorem swZ_step {z : Nat → Zon} {i m : Nat} (hm : i + 2 ≤ m) : swZ z i (m + 1) = updZ (swZ z i m) m ((z m).ren i) := by
  funext j
  unfold swZ updZ
  dsimp only
  by_cases h : j = m
  · subst h
    rw [if_pos rfl, if_neg (by omega), if_neg (by omega), if_pos (by omega)]
  · rw [if_neg h]
    by_cases h1 : j = i
    · rw [if_pos h1, if_pos h1]
    · by_cases h2 : j = i + 1
      · rw [if_neg h1, if_pos h2, if_neg h1, if_pos h2]
      · rw [if_neg h1, if_neg h2, if_neg h1, if_neg h2]
        by_cases h3 : j < m
        · rw [if_pos h3, if_pos (by omega)]
        · rw [if_neg h3, if_neg (by omega)]
theorem swZ_at {z : Nat → Zon} {i m : Nat} (hm : i + 2 ≤ m) : swZ z i m m = z m := by
  unfold swZ
  rw [if_neg (by omega), if_neg (by omega), if_neg (by omega)]
theorem swZ_start {z : Nat → Zon} {i n : Nat} (hz : Tree z n) (hi : i < n) : updZ (updZ z i (z (i + 1))) (i + 1) (z i) = swZ z i (i + 2) := by
  funext j
  unfold swZ updZ
  by_cases h1 : j = i
  · subst h1
    rw [if_neg (by omega), if_pos rfl, if_pos rfl]
  · by_cases h2 : j = i + 1
    · rw [if_pos h2, if_neg h1, if_pos h2]
    · rw [if_neg h2, if_neg h1, if_neg h1, if_neg h2]
      split
      · have := hz j (by omega)
        exact (ren_same (by omega) (by omega)).symm
      · rfl
theorem swZ_swp {z : Nat → Zon} {i n : Nat} (hz : Tree z n) (hi : i + 1 < n) (hp : (z (i + 1)).p ≠ (i : Int)) : Swp i n z (swZ z i n) ∧ Tree (swZ z i n) n := by
  have h1 := hz i (by omega)
  have h2 := hz (i + 1) (by omega)
  have ei : swZ z i n i = z (i + 1) := if_pos rfl
  have ei1 : swZ z i n (i + 1) = z i := by unfold swZ; rw [if_neg (by omega), if_pos rfl]
  have eo : ∀ j, j < n → j ≠ i → j ≠ i + 1 → swZ z i n j = (z j).ren i := fun j hj a b => by unfold swZ; rw [if_neg a, if_neg b, if_pos hj]
  have si : sw i i = i + 1 := if_pos rfl
  have si1 : sw i (i + 1) = i := by unfold sw; rw [if_neg (by omega), if_pos rfl]
  have so : ∀ j, j ≠ i → j ≠ i + 1 → sw i j = j := fun j a b => by unfold sw; rw [if_neg a, if_neg b]
  have hsw : ∀ q : Nat, (sw i q : Int) = swP i q := fun q => by
    unfold sw swP
    by_cases a : q = i
    · rw [if_pos a, if_pos (by omega)]; omega
    · by_cases b : q = i + 1
      · rw [if_neg a, if_pos b, if_neg (by omega), if_pos (by omega)]
      · rw [if_neg a, if_neg b, if_neg (by omega), if_neg (by omega)]
  have hinj : ∀ {p q : Int}, swP i p = swP i q → p = q := fun {p q} h => by
    unfold swP at h
    split at h <;> split at h <;> (try split at h) <;> (try split at h) <;> omega
  refine ⟨⟨hi, fun j hj => ?_, fun j hj q => ?_, fun j hj h => ?_⟩, fun j hj => ?_⟩
  · by_cases a : j = i
    · subst a; rw [si, ei1]
    · by_cases b : j = i + 1
      · subst b; rw [si1, ei]
      · rw [so j a b, eo j hj a b]; rfl
  · by_cases a : j = i
    · subst a; rw [si, ei1, hsw q]
      unfold swP
      split
      · omega
      · split <;> omega
    · by_cases b : j = i + 1
      · subst b; rw [si1, ei, hsw q]
        unfold swP
        split
        · omega
        · split <;> omega
      · rw [so j a b, eo j hj a b, hsw q]
        constructor
        · intro h; show swP i (z j).p = _; rw [h]
        · intro h; exact hinj h
  · by_cases a : j = i
    · subst a; rw [si, ei1]; exact h
    · by_cases b : j = i + 1
      · subst b; rw [si1, ei]; exact h
      · rw [so j a b, eo j hj a b]
        show swP i (z j).p = -1
        rw [h]; unfold swP; rw [if_neg (by omega), if_neg (by omega)]
  · by_cases a : j = i
    · subst a; rw [ei]; omega
    · by_cases b : j = i + 1
      · subst b; rw [ei1]; omega
      · rw [eo j hj a b]
        have h3 := hz j hj
        show -1 ≤ swP i (z j).p ∧ swP i (z j).p < (j : Int)
        unfold swP
        split
        · omega
        · split <;> omega
theorem swZ_list {z : Nat → Zon} {i n : Nat} (h : listB n z = true) (hi : i + 1 < n) (hp : (z (i + 1)).p ≠ (i : Int)) : listB n (swZ z i n) = true := by
  have hT := (swZ_swp (listB_spec h).2.2.1 hi hp).2
  unfold listB at h ⊢
  rw [Bool.and_eq_true] at h ⊢
  refine ⟨allB_iff.2 fun j hj => ?_, h.2⟩
  have hq := hT j hj
  have num : ∀ k, k < n → ∀ x : Zon, x.i = (z k).i → x.m = (z k).m → x.e = (z k).e → x.l = (z k).l → -1 ≤ x.p → x.p < (j : Int) → zonB x j = true := fun k hk x e1 e2 e3 e4 p1 p2 => by
    have h2 := allB_iff.1 h.1 k hk
    unfold zonB at h2 ⊢
    simp only [Bool.and_eq_true] at h2 ⊢
    rw [e1, e2, e3, e4]
    exact ⟨h2.1, h2.2.1, h2.2.2.1, h2.2.2.2.1, by simp [withinB]; omega⟩
  by_cases a : j = i
  · have e : swZ z i n j = z (i + 1) := by rw [a]; exact if_pos rfl
    rw [e] at hq ⊢
    exact num (i + 1) hi _ rfl rfl rfl rfl hq.1 hq.2
  · by_cases b : j = i + 1
    · have e : swZ z i n j = z i := by unfold swZ; rw [if_neg a, if_pos b]
      rw [e] at hq ⊢
      exact num i (by omega) _ rfl rfl rfl rfl hq.1 hq.2
    · have e : swZ z i n j = (z j).ren i := by unfold swZ; rw [if_neg a, if_neg b, if_pos hj]
      rw [e] at hq ⊢
      exact num j hj _ rfl rfl rfl rfl hq.1 hq.2
/-- a zone with narrower numbers -/
def Zon.nar (x : Zon) (b : Nat) : Zon := ⟨⟨min x.i.hi (x.i.lo + ((b % 11 : Nat) : Int)), x.i.hi⟩, ⟨x.m.lo, max x.m.lo (x.m.hi - ((b % 7 : Nat) : Int))⟩, ⟨min x.e.hi (x.e.lo + ((b % 3 : Nat) : Int)), x.e.hi⟩, ⟨x.l.lo, max x.l.lo (x.l.hi - ((b % 5 : Nat) : Int))⟩, x.p⟩
theorem thrD_mono {s s' e e' : Int} (h0 : 0 ≤ s') (h1 : s' ≤ s) (he0 : -500 ≤ e) (he : e ≤ e') : thrD s' e' ≤ thrD s e := by
  unfold thrD
  have h2 : 1000 * s' / (1000 + e') ≤ 1000 * s / (1000 + e') := Int.ediv_le_ediv (by omega) (by omega)
  have h3 : 1000 * s / (1000 + e') ≤ 1000 * s / (1000 + e) := by
    refine Int.le_ediv_of_mul_le (by omega) ?_
    have h4 := Int.ediv_mul_le (1000 * s) (b := 1000 + e') (by omega)
    have h5 : 0 ≤ 1000 * s / (1000 + e') := Int.ediv_nonneg (by omega) (by omega)
    have h6 := Int.mul_le_mul_of_nonneg_left (show 1000 + e ≤ 1000 + e' by omega) h5
    omega
  omega
theorem nar_own {x : Zon} {b : Nat} (h : x.ok) : x.own.lo ≤ (x.nar b).own.lo ∧ (x.nar b).own.hi ≤ x.own.hi := by
  obtain ⟨h1, h2, h3, h4⟩ := h
  have hd := thrD_mono (s := x.m.hi) (s' := max x.m.lo (x.m.hi - ((b % 7 : Nat) : Int))) (e := x.e.lo) (e' := min x.e.hi (x.e.lo + ((b % 3 : Nat) : Int))) (by omega) (by omega) (by omega) (by omega)
  have o1 : x.own.lo = max 0 (x.i.lo - thrD x.m.hi x.e.lo - x.l.hi) := rfl
  have o2 : x.own.hi = x.i.hi - thrU x.m.lo x.e.hi - x.l.lo := rfl
  have o3 : (x.nar b).own.lo = max 0 (min x.i.hi (x.i.lo + ((b % 11 : Nat) : Int)) - thrD (max x.m.lo (x.m.hi - ((b % 7 : Nat) : Int))) (min x.e.hi (x.e.lo + ((b % 3 : Nat) : Int))) - max x.l.lo (x.l.hi - ((b % 5 : Nat) : Int))) := rfl
  have o4 : (x.nar b).own.hi = x.i.hi - thrU x.m.lo x.e.hi - x.l.lo := rfl
  omega
theorem nar_list {z : Nat → Zon} {i n b : Nat} (h : listB n z = true) (hi : i < n) : listB n (updZ z i ((z i).nar b)) = true := by
  have hok := (listB_spec h).2.2.2 i hi
  unfold listB at h ⊢
  rw [Bool.and_eq_true] at h ⊢
  refine ⟨allB_iff.2 fun j hj => ?_, h.2⟩
  have h2 := allB_iff.1 h.1 j hj
  by_cases hji : j = i
  · subst hji
    rw [updZ_self]
    unfold zonB at h2 ⊢
    simp only [Bool.and_eq_true] at h2 ⊢
    obtain ⟨k1, k2, k3, k4⟩ := hok
    have sp : ∀ {s : Spn} {lo hi a b : Int}, s.lo = a → s.hi = b → lo ≤ a → a ≤ b → b ≤ hi → spanB s lo hi = true := fun {s lo hi a b} e1 e2 h1 h2 h3 => by
      unfold spanB
      rw [e1, e2]
      exact decide_eq_true ⟨h1, h2, h3⟩
    exact ⟨sp (a := min (z j).i.hi ((z j).i.lo + ((b % 11 : Nat) : Int))) (b := (z j).i.hi) rfl rfl (by omega) (by omega) (by omega), sp (a := (z j).m.lo) (b := max (z j).m.lo ((z j).m.hi - ((b % 7 : Nat) : Int))) rfl rfl (by omega) (by omega) (by omega), sp (a := (z j).l.lo) (b := max (z j).l.lo ((z j).l.hi - ((b % 5 : Nat) : Int))) rfl rfl (by omega) (by omega) (by omega), sp (a := min (z j).e.hi ((z j).e.lo + ((b % 3 : Nat) : Int))) (b := (z j).e.hi) rfl rfl (by omega) (by omega) (by omega), h2.2.2.2.2⟩
  · rw [updZ_ne hji]; exact h2
theorem nar_dn {z : Nat → Zon} {i n b : Nat} (hz : Tree z n) (hok : ∀ j, j < n → (z j).ok) (hall : AllR (updZ z i ((z i).nar b)) n) :
    AllR z n ∧ ∀ j, j < n → (dnF z n j).lo ≤ (dnF (updZ z i ((z i).nar b)) n j).lo ∧ (dnF (updZ z i ((z i).nar b)) n j).hi ≤ (dnF z n j).hi :=
  mono_dn hz (fun j _ => by
    by_cases h : j = i
    · subst h; rw [updZ_self]; rfl
    · rw [updZ_ne h]) (fun j hj => by
    by_cases h : j = i
    · subst h; rw [updZ_self]; exact nar_own (hok j hj)
    · rw [updZ_ne h]; omega) hall
end Go.Proofs.Ytipnaeijbbbdoaa
