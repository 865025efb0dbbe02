/- Zone, plain: what the document's loops keep while they narrow. -/
import Derived.Test.YtipnaeijbbbdoaaP5
namespace Go.Proofs.Ytipnaeijbbbdoaa
open Go.RowKit
def updS (s : Nat → Spn) (i : Nat) (x : Spn) : Nat → Spn := fun j => if j = i then x else s j
theorem updS_self (s : Nat → Spn) (i : Nat) (x : Spn) : updS s i x i = x := if_pos rfl
theorem updS_ne {s : Nat → Spn} {i j : Nat} {x : Spn} (h : j ≠ i) : updS s i x j = s j := if_neg h
theorem updS_id (s : Nat → Spn) (i : Nat) : updS s i (s i) = s := by
  funext j
  unfold updS
  by_cases h : j = i
  · rw [if_pos h, h]
  · rw [if_neg h]
/-- what a zone and its parts are at rest -/
def SumC (z : Nat → Zon) (n : Nat) (s : Nat → Spn) (i : Nat) : Prop := sumL (fun c => (s c).lo) (kidsTo z i n) ≤ (s i).lo ∧ (s i).hi ≤ sumL (fun c => (s c).hi) (kidsTo z i n)
def KidC (z : Nat → Zon) (n : Nat) (s : Nat → Spn) (i c : Nat) : Prop := (s i).lo - (sumL (fun c => (s c).hi) (kidsTo z i n) - (s c).hi) ≤ (s c).lo ∧ (s c).hi ≤ (s i).hi - (sumL (fun c => (s c).lo) (kidsTo z i n) - (s c).lo)
def Rest (z : Nat → Zon) (n : Nat) (s : Nat → Spn) (i : Nat) : Prop := kidsTo z i n = [] ∨ (SumC z n s i ∧ ∀ c ∈ kidsTo z i n, KidC z n s i c)
/-- what a pass begins with -/
structure NI (z : Nat → Zon) (n q : Nat) (s : Nat → Spn) : Prop where
  own : ∀ i, i < n → Und z q i → (z i).own.lo ≤ (s i).lo ∧ (s i).lo ≤ (s i).hi ∧ (s i).hi ≤ (z i).own.hi
  fam : ∀ t, Fam z n q t → Wthn z n q t s
/-- where a pass stands, ahead of zone zz -/
structure ZV (z : Nat → Zon) (n q : Nat) (s0 : Nat → Spn) (zz : Nat) (s : Nat → Spn) (st : Bool) : Prop where
  own : ∀ i, i < n → Und z q i → (z i).own.lo ≤ (s i).lo ∧ (s i).lo ≤ (s i).hi ∧ (s i).hi ≤ (z i).own.hi
  fam : ∀ t, Fam z n q t → Wthn z n q t s
  yes : st = true → (∀ i, i < n → s i = s0 i) ∧ ∀ i, i < zz → i < n → Und z q i → Rest z n s0 i
  no : st = false → widN s n < widN s0 n
/-- where it stands at zone zz, whose span is now, ahead of its part number k -/
structure KV (z : Nat → Zon) (n q : Nat) (s0 : Nat → Spn) (zz : Nat) (now : Spn) (k : Nat) (s : Nat → Spn) (st : Bool) : Prop where
  own : ∀ i, i < n → Und z q i → (z i).own.lo ≤ (s i).lo ∧ (s i).hi ≤ (z i).own.hi
  ne : ∀ i, i < n → Und z q i → i ≠ zz → (s i).lo ≤ (s i).hi
  at_ : s zz = now
  bnd : 0 ≤ now.lo ∧ now.lo ≤ 12884901888 ∧ 0 ≤ now.hi ∧ now.hi ≤ 1073741824
  fam : ∀ t, Fam z n q t → Wthn z n q t s
  yes : st = true → (∀ i, i < n → s i = s0 i) ∧ (∀ i, i < zz → i < n → Und z q i → Rest z n s0 i) ∧ SumC z n s0 zz ∧ ∀ j, j < k → KidC z n s0 zz ((kidsTo z zz n).getD j 0)
  no : st = false → widN s n < widN s0 n
theorem NI.start {z : Nat → Zon} {n q : Nat} {s : Nat → Spn} (h : NI z n q s) : ZV z n q s 0 s true :=
  ⟨h.own, h.fam, fun _ => ⟨fun _ _ => rfl, fun i hi => by omega⟩, fun h => by cases h⟩
theorem ZV.next {z : Nat → Zon} {n q : Nat} {s0 s : Nat → Spn} (h : ZV z n q s0 n s false) : NI z n q s ∧ widN s n < widN s0 n := ⟨⟨h.own, h.fam⟩, h.no rfl⟩
theorem sumL_eq {z : Nat → Zon} {n : Nat} {i : Nat} {s s0 : Nat → Spn} (h : ∀ i, i < n → s i = s0 i) : sumL (fun c => (s c).lo) (kidsTo z i n) = sumL (fun c => (s0 c).lo) (kidsTo z i n) ∧ sumL (fun c => (s c).hi) (kidsTo z i n) = sumL (fun c => (s0 c).hi) (kidsTo z i n) :=
  ⟨sumL_congr fun c hc => by rw [h c (mem_kidsTo.1 hc).1], sumL_congr fun c hc => by rw [h c (mem_kidsTo.1 hc).1]⟩
theorem ZV.fin {z : Nat → Zon} {n q : Nat} {s0 s : Nat → Spn} (h : ZV z n q s0 n s true) : Fam z n q s := by
  obtain ⟨h1, h2⟩ := h.yes rfl
  have key : ∀ i, i < n → Und z q i → Rest z n s i := fun i hi hu => by
    obtain ⟨e1, e2⟩ := sumL_eq (z := z) (i := i) h1
    rcases h2 i hi hi hu with h3 | ⟨h3, h4⟩
    · exact .inl h3
    · refine .inr ⟨?_, fun c hc => ?_⟩
      · unfold SumC; rw [e1, e2, h1 i hi]; exact h3
      · unfold KidC; rw [e1, e2, h1 i hi, h1 c (mem_kidsTo.1 hc).1]; exact h4 c hc
  refine ⟨h.own, fun i hi hu hne => ?_, fun i hi hu c hc => ?_⟩
  · rcases key i hi hu with h3 | h3
    · exact absurd h3 hne
    · exact h3.1
  · rcases key i hi hu with h3 | h3
    · rw [h3] at hc; simp at hc
    · exact h3.2 c hc
theorem ZV.skip {z : Nat → Zon} {n q zz : Nat} {s0 s : Nat → Spn} {st : Bool} (h : ZV z n q s0 zz s st) (hs : Und z q zz → kidsTo z zz n = []) : ZV z n q s0 (zz + 1) s st := by
  refine ⟨h.own, h.fam, fun e => ⟨(h.yes e).1, fun i hi hin hu => ?_⟩, h.no⟩
  by_cases hiz : i = zz
  · subst hiz; exact .inl (hs hu)
  · exact (h.yes e).2 i (by omega) hin hu
theorem widN_upd {s : Nat → Spn} {n k : Nat} {x : Spn} (h1 : (s k).lo ≤ x.lo) (h2 : x.hi ≤ (s k).hi) : widN (updS s k x) n ≤ widN s n := by
  refine widN_le fun i _ => ?_
  by_cases h : i = k
  · subst h; rw [updS_self]; exact ⟨h1, h2⟩
  · rw [updS_ne h]; omega
theorem widN_upd_lt {s : Nat → Spn} {n k : Nat} {x : Spn} (hk : k < n) (h0 : (s k).lo ≤ (s k).hi) (h1 : (s k).lo ≤ x.lo) (h2 : x.hi ≤ (s k).hi) (hne : x ≠ s k) : widN (updS s k x) n < widN s n := by
  refine widN_lt (k := k) (fun i _ => ?_) hk h0 (by rw [updS_self]; exact hne)
  by_cases h : i = k
  · subst h; rw [updS_self]; exact ⟨h1, h2⟩
  · rw [updS_ne h]; omega
theorem kids_bd {z : Nat → Zon} {n q zz : Nat} {s : Nat → Spn} (hz : Tree z n) (hok : ∀ i, i < n → (z i).ok) (hn : n ≤ 12) (hu : Und z q zz) (own : ∀ i, i < n → Und z q i → (z i).own.lo ≤ (s i).lo ∧ (s i).hi ≤ (z i).own.hi) (ne : ∀ i, i < n → Und z q i → i ≠ zz → (s i).lo ≤ (s i).hi) :
    (∀ c ∈ kidsTo z zz n, (0 ≤ (s c).lo ∧ (s c).lo ≤ 1073741824) ∧ 0 ≤ (s c).hi ∧ (s c).hi ≤ 1073741824) ∧ (0 ≤ sumL (fun c => (s c).lo) (kidsTo z zz n) ∧ sumL (fun c => (s c).lo) (kidsTo z zz n) ≤ 12884901888) ∧ 0 ≤ sumL (fun c => (s c).hi) (kidsTo z zz n) ∧ sumL (fun c => (s c).hi) (kidsTo z zz n) ≤ 12884901888 := by
  have hb : ∀ c ∈ kidsTo z zz n, (0 ≤ (s c).lo ∧ (s c).lo ≤ 1073741824) ∧ 0 ≤ (s c).hi ∧ (s c).hi ≤ 1073741824 := fun c hc => by
    have hk := kid_gt hz hc
    have h1 := own c hk.2.1 (und_kid hu hc)
    have h2 := ne c hk.2.1 (und_kid hu hc) (by omega)
    have h3 := Zon.own_bd (hok c hk.2.1)
    omega
  have hl := kidsTo_len z zz n
  have s1 := sumL_bd (f := fun c => (s c).lo) (B := 1073741824) (l := kidsTo z zz n) fun c hc => (hb c hc).1
  have s2 := sumL_bd (f := fun c => (s c).hi) (B := 1073741824) (l := kidsTo z zz n) fun c hc => (hb c hc).2
  exact ⟨hb, by omega, by omega⟩
/-- the span of a zone with parts -/
def nowS (z : Nat → Zon) (n zz : Nat) (s : Nat → Spn) : Spn := cutS (s zz) (sumL (fun c => (s c).lo) (kidsTo z zz n)) (sumL (fun c => (s c).hi) (kidsTo z zz n))
theorem ZV.stepA {z : Nat → Zon} {n q zz : Nat} {s0 s : Nat → Spn} {st : Bool} (hz : Tree z n) (hok : ∀ i, i < n → (z i).ok) (hn : n ≤ 12) (h : ZV z n q s0 zz s st) (hzn : zz < n) (hu : Und z q zz) (hne : kidsTo z zz n ≠ []) :
    KV z n q s0 zz (nowS z n zz s) 0 (updS s zz (nowS z n zz s)) (st && decide (nowS z n zz s = s zz)) := by
  have e1 : (nowS z n zz s).lo = max (s zz).lo (sumL (fun c => (s c).lo) (kidsTo z zz n)) := rfl
  have e2 : (nowS z n zz s).hi = min (s zz).hi (sumL (fun c => (s c).hi) (kidsTo z zz n)) := rfl
  have ho := h.own zz hzn hu
  have hob := Zon.own_bd (hok zz hzn)
  obtain ⟨-, hb1, hb2⟩ := kids_bd hz hok hn hu (fun i hi hu => by have := h.own i hi hu; omega) (fun i hi hu _ => (h.own i hi hu).2.1)
  have hwl := widN_upd (s := s) (n := n) (k := zz) (x := nowS z n zz s) (by omega) (by omega)
  refine ⟨fun i hi hu' => ?_, fun i hi hu' hiz => ?_, updS_self _ _ _, by omega, fun t ht i hi hu' => ?_, fun e => ?_, fun e => ?_⟩
  · have := h.own i hi hu'
    by_cases hiz : i = zz
    · subst hiz; rw [updS_self]; omega
    · rw [updS_ne hiz]; omega
  · rw [updS_ne hiz]; exact (h.own i hi hu').2.1
  · by_cases hiz : i = zz
    · subst hiz
      rw [updS_self]
      have := ht.stepA hz (h.fam t ht) hzn hu hne
      omega
    · rw [updS_ne hiz]; exact h.fam t ht i hi hu'
  · rw [Bool.and_eq_true, decide_eq_true_eq] at e
    obtain ⟨e3, e4⟩ := e
    obtain ⟨y1, y2⟩ := h.yes e3
    rw [e4, updS_id]
    obtain ⟨q1, q2⟩ := sumL_eq (z := z) (i := zz) y1
    refine ⟨y1, y2, ?_, fun j hj => by omega⟩
    unfold SumC
    rw [← q1, ← q2, ← y1 zz hzn]
    rw [e4] at e1 e2
    omega
  · cases hst : st
    · have := h.no hst; omega
    · rw [hst, Bool.true_and] at e
      have hne' := of_decide_eq_false e
      have hlt := widN_upd_lt (s := s) (n := n) (k := zz) (x := nowS z n zz s) hzn ho.2.1 (by omega) (by omega) hne'
      rw [widN_congr (h.yes hst).1] at hlt
      exact hlt
/-- the span of a part, made narrower -/
def nextS (z : Nat → Zon) (n zz : Nat) (now : Spn) (s : Nat → Spn) (c : Nat) : Spn := cutS (s c) (now.lo - (sumL (fun c => (s c).hi) (kidsTo z zz n) - (s c).hi)) (now.hi - (sumL (fun c => (s c).lo) (kidsTo z zz n) - (s c).lo))
theorem KV.famB {z : Nat → Zon} {n q zz k c : Nat} {now : Spn} {s0 s : Nat → Spn} {st : Bool} (hz : Tree z n) (h : KV z n q s0 zz now k s st) (hzn : zz < n) (hu : Und z q zz) (hc : c ∈ kidsTo z zz n) {t : Nat → Spn} (ht : Fam z n q t) :
    (nextS z n zz now s c).lo ≤ (t c).lo ∧ (t c).hi ≤ (nextS z n zz now s c).hi := by
  have := ht.stepB hz (h.fam t ht) hzn hu hc
  rw [h.at_] at this
  exact this
theorem KV.bad {z : Nat → Zon} {n q zz k c : Nat} {now : Spn} {s0 s : Nat → Spn} {st : Bool} (hz : Tree z n) (h : KV z n q s0 zz now k s st) (hzn : zz < n) (hu : Und z q zz) (hc : c ∈ kidsTo z zz n) (hb : (nextS z n zz now s c).hi < (nextS z n zz now s c).lo) : ¬ ∃ t, Fam z n q t := by
  rintro ⟨t, ht⟩
  have h1 := h.famB hz hzn hu hc ht
  have h2 := ht.own c (kid_gt hz hc).2.1 (und_kid hu hc)
  omega
theorem KV.bad2 {z : Nat → Zon} {n q zz k : Nat} {now : Spn} {s0 s : Nat → Spn} {st : Bool} (h : KV z n q s0 zz now k s st) (hzn : zz < n) (hu : Und z q zz) (hb : now.hi < now.lo) : ¬ ∃ t, Fam z n q t := by
  rintro ⟨t, ht⟩
  have h1 := h.fam t ht zz hzn hu
  have h2 := ht.own zz hzn hu
  rw [h.at_] at h1
  omega
theorem KV.stepB {z : Nat → Zon} {n q zz k c : Nat} {now : Spn} {s0 s : Nat → Spn} {st : Bool} (hz : Tree z n) (h : KV z n q s0 zz now k s st) (hzn : zz < n) (hu : Und z q zz) (hk : k < (kidsTo z zz n).length) (hck : c = (kidsTo z zz n).getD k 0)
    (hle : (nextS z n zz now s c).lo ≤ (nextS z n zz now s c).hi) : KV z n q s0 zz now (k + 1) (updS s c (nextS z n zz now s c)) (st && decide (nextS z n zz now s c = s c)) := by
  have hc : c ∈ kidsTo z zz n := by
    rw [hck, List.getD_eq_getElem?_getD, List.getElem?_eq_getElem hk]; exact List.getElem_mem hk
  have hcn := kid_gt hz hc
  have hcu := und_kid hu hc
  have e1 : (nextS z n zz now s c).lo = max (s c).lo (now.lo - (sumL (fun c => (s c).hi) (kidsTo z zz n) - (s c).hi)) := rfl
  have e2 : (nextS z n zz now s c).hi = min (s c).hi (now.hi - (sumL (fun c => (s c).lo) (kidsTo z zz n) - (s c).lo)) := rfl
  have ho := h.own c hcn.2.1 hcu
  have hwl := widN_upd (s := s) (n := n) (k := c) (x := nextS z n zz now s c) (by omega) (by omega)
  refine ⟨fun i hi hu' => ?_, fun i hi hu' hiz => ?_, by rw [updS_ne (by omega)]; exact h.at_, h.bnd, fun t ht i hi hu' => ?_, fun e => ?_, fun e => ?_⟩
  · have := h.own i hi hu'
    by_cases hiz : i = c
    · subst hiz; rw [updS_self]; omega
    · rw [updS_ne hiz]; omega
  · by_cases hic : i = c
    · subst hic; rw [updS_self]; exact hle
    · rw [updS_ne hic]; exact h.ne i hi hu' hiz
  · by_cases hiz : i = c
    · subst hiz
      rw [updS_self]
      exact h.famB hz hzn hu hc ht
    · rw [updS_ne hiz]; exact h.fam t ht i hi hu'
  · rw [Bool.and_eq_true, decide_eq_true_eq] at e
    obtain ⟨e3, e4⟩ := e
    obtain ⟨y1, y2, y3, y4⟩ := h.yes e3
    rw [e4, updS_id]
    obtain ⟨q1, q2⟩ := sumL_eq (z := z) (i := zz) y1
    refine ⟨y1, y2, y3, fun j hj => ?_⟩
    by_cases hjk : j = k
    · subst hjk
      rw [← hck]
      unfold KidC
      rw [← q1, ← q2, ← y1 zz hzn, ← y1 c hcn.2.1, h.at_]
      rw [e4] at e1 e2
      omega
    · exact y4 j (by omega)
  · cases hst : st
    · have := h.no hst; omega
    · rw [hst, Bool.true_and] at e
      have hne' := of_decide_eq_false e
      have hlt := widN_upd_lt (s := s) (n := n) (k := c) (x := nextS z n zz now s c) hcn.2.1 (h.ne c hcn.2.1 hcu (by omega)) (by omega) (by omega) hne'
      rw [widN_congr (h.yes hst).1] at hlt
      exact hlt
theorem KV.fin {z : Nat → Zon} {n q zz k : Nat} {now : Spn} {s0 s : Nat → Spn} {st : Bool} (h : KV z n q s0 zz now k s st) (hk : (kidsTo z zz n).length ≤ k) (hle : now.lo ≤ now.hi) : ZV z n q s0 (zz + 1) s st := by
  refine ⟨fun i hi hu => ?_, h.fam, fun e => ?_, h.no⟩
  · have h1 := h.own i hi hu
    by_cases hiz : i = zz
    · subst hiz
      rw [h.at_] at h1 ⊢
      omega
    · have := h.ne i hi hu hiz
      omega
  · obtain ⟨y1, y2, y3, y4⟩ := h.yes e
    refine ⟨y1, fun i hi hin hu => ?_⟩
    by_cases hiz : i = zz
    · subst hiz
      refine .inr ⟨y3, fun c hc => ?_⟩
      obtain ⟨j, hj, rfl⟩ := List.mem_iff_getElem.1 hc
      have := y4 j (by omega)
      rw [List.getD_eq_getElem?_getD, List.getElem?_eq_getElem hj] at this
      exact this
    · exact y2 i (by omega) hin hu
/-- rows of spans that are made -/
def SRow (n : Nat) (s : Nat → Spn) (cur : Array Value) : Prop := n * 2 ≤ cur.size ∧ ∀ i, i < n → cur[i * 2]? = some (.int .i64 (s i).lo) ∧ cur[i * 2 + 1]? = some (.int .i64 (s i).hi)
end Go.Proofs.Ytipnaeijbbbdoaa
