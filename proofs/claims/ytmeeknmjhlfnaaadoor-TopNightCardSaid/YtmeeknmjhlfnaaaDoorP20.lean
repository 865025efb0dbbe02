/- The plain law of TopNight: what a street leaks alone lies within what each step in which it is not shut leaves of the flow; no program in sight. -/
import Derived.Test.YtmeeknmjhlfnaaaDoorP10
import Derived.Test.YtmeeknmjhlfnaaaDoorR1
namespace Go.Proofs.YtmeeknmjhlfnaaaDoor
open Go.RowKit
/-- sums -/
def sumN (F : Nat → Int) : Nat → Int
  | 0 => 0
  | k + 1 => sumN F k + F k
theorem sumN_congr {F G : Nat → Int} : ∀ {k}, (∀ i, i < k → F i = G i) → sumN F k = sumN G k
  | 0, _ => rfl
  | k + 1, h => by unfold sumN; rw [sumN_congr (fun i hi => h i (by omega)), h k (by omega)]
/-- what a step says of the leaks of a set, by its kind: no street is open, the first, the second, both -/
def ck : Nat → Spn → Pr → Option Pr
  | 0, f, p => if 0 < f.lo ∨ f.hi < 0 then none else some p
  | 1, f, p => some { p with a := cutS p.a f }
  | 2, f, p => some { p with b := cutS p.b f }
  | _ + 3, f, p => some { p with c := cutS p.c f }
def kd1 (a : Bool) : Nat := if a then 0 else 1
theorem cut_nil {x : Nat} {r : Stp} (h : stL x = []) : cutO x r = ck 0 r.flow := by
  funext p
  unfold cutO
  rw [h, op_nil]
  simp [ck]
theorem cut_1 {x i : Nat} {r : Stp} (h : stL x = [i]) : cutO x r = ck (kd1 (hasB r.shut.toNat i)) r.flow := by
  funext p
  unfold cutO
  rw [h, op_one]
  cases hasB r.shut.toNat i <;> simp [ck, kd1]
theorem left_sums (u : Nat → Spn) (f : Spn) (sh : Nat) : ∀ k, leftK u f sh k = ⟨f.lo - sumN (fun i => if hasB sh i then 0 else (u i).hi) k, f.hi - sumN (fun i => if hasB sh i then 0 else (u i).lo) k⟩
  | 0 => by show f = ⟨f.lo - 0, f.hi - 0⟩; rw [Int.sub_zero, Int.sub_zero]
  | k + 1 => by
    unfold leftK sumN
    rw [left_sums u f sh k]
    cases hasB sh k <;> simp only [Bool.false_eq_true, if_false, if_true, Spn.mk.injEq] <;> omega
/-- the memory that a law asks for, after new memory -/
structure Mem (t : Tst) (oa : Option Addr) (ob : Option Addr) (W : World) : Prop where
  u : SpnsAt W oa t.n t.u
  s : StpsAt W ob t.m t.s
  T : TabAt 1 Lib.deBruijn64tab W
  l : 1 < W.heap.size
theorem Mem.on {t : Tst} {oa ob : Option Addr} {A B : World} (h : Mem t oa ob A) (hb : Below A.heap.size A B) : Mem t oa ob B :=
  ⟨h.u.mono hb, h.s.mono hb, fun j hj => (hb.cell (p := ⟨1, j, none⟩) h.l).trans (h.T j hj), Nat.lt_of_lt_of_le h.l hb.size⟩
theorem gK_flow {t : Tst} {i : Nat} (hi : i < 10) : ∀ {n : Nat} {p : Pr}, gK t (2 ^ i) n = some p → ∀ k, k < n → hasB (t.s k).shut.toNat i = false → (t.rest k).flow.lo ≤ p.a.lo ∧ p.a.hi ≤ (t.rest k).flow.hi
  | 0, _, _, _, hk, _ => by omega
  | n + 1, p, h, k, hk, hb => by
    have h9 : (gK t (2 ^ i) n).bind (cutO (2 ^ i) (t.rest n)) = some p := h
    cases hg : gK t (2 ^ i) n with
    | none => rw [hg] at h9; cases h9
    | some q =>
      rw [hg] at h9
      have h8 : cutO (2 ^ i) (t.rest n) q = some p := h9
      by_cases hkn : k = n
      · subst hkn
        rw [cut_1 (one_st hi).2.1] at h8
        have e : hasB (t.rest k).shut.toNat i = false := hb
        rw [e] at h8
        have h7 : some ({ q with a := cutS q.a (t.rest k).flow } : Pr) = some p := h8
        cases h7
        simp only [cutS]
        omega
      · have ih := gK_flow hi hg k (by omega) hb
        have hs := (cutO_le h8).a
        unfold Spn.sub at hs
        omega
theorem gK_zero {t : Tst} : ∀ {n : Nat} {p : Pr}, gK t 0 n = some p → ∀ k, k < n → (t.rest k).flow.lo ≤ 0
  | 0, _, _, _, hk => by omega
  | n + 1, p, h, k, hk => by
    have h9 : (gK t 0 n).bind (cutO 0 (t.rest n)) = some p := h
    cases hg : gK t 0 n with
    | none => rw [hg] at h9; cases h9
    | some q =>
      rw [hg] at h9
      have h8 : cutO 0 (t.rest n) q = some p := h9
      by_cases hkn : k = n
      · subst hkn
        rw [cut_nil zero_st.1] at h8
        have h7 : (if 0 < (t.rest k).flow.lo ∨ (t.rest k).flow.hi < 0 then none else some q) = some p := h8
        split at h7
        · cases h7
        · omega
      · exact gK_zero hg k (by omega)
theorem cont_one {t : Tst} (hk : t.Ok) (hl : t.leaks ≤ 1) {i y : Nat} {a : Spn} (hi : i < t.n) (hy : y < 2 ^ t.n) (h : cont t i y = some a) : ∃ p, gK t (2 ^ i) t.m = some p ∧ a = p.a := by
  have hn := hk.n2
  have h10 := pow_ten hn
  rw [cont_eq] at h
  split at h
  · cases h
  · rename_i hs
    split at h
    · rename_i hb
      rcases few (x := y) (by omega) (by omega) with rfl | ⟨j, hj, rfl⟩ | ⟨j, j', hj, hj', hjj, rfl⟩
      · rw [zero_st.2.2 i (by omega)] at hb; cases hb
      · obtain ⟨-, a2, a3, a4⟩ := one_st hj
        rw [a4 i (by omega), decide_eq_true_eq] at hb
        subst hb
        cases hg : gK t (2 ^ i) t.m with
        | none => rw [hg] at h; cases h
        | some p =>
          rw [hg] at h
          simp only [Option.bind_some] at h
          have en : narrowI (2 ^ i) p = p := by unfold narrowI; rw [if_neg (by rw [a3]; omega)]
          rw [en] at h
          split at h
          · cases h; exact ⟨p, rfl, span_a p a2⟩
          · cases h
      · have a3 := (two_st hj hj' hjj).2.2.1
        rw [a3] at hs
        omega
    · cases h
/-- the law of TopNight, for one step -/
theorem night_law {t : Tst} (hv : t.valid = true) (hl : t.leaks ≤ 1) (hf : t.err = 0) {k : Nat} (hk : k < t.m) :
    (∀ i, i < t.n → (t.leakErr i = 0 ↔ hasB t.canR i = true)) ∧
    (∀ i, i < t.n → t.leakErr i = 0 → hasB (t.s k).shut.toNat i = false → 1 ≤ (t.leakR i).lo ∧ (t.rest k).flow.lo ≤ (t.leakR i).lo ∧ (t.leakR i).lo ≤ (t.leakR i).hi ∧ (t.leakR i).hi ≤ (t.rest k).flow.hi) ∧
    (t.soundR = true → (t.rest k).flow.lo ≤ 0) := by
  have hok := Tst.ok hv
  obtain ⟨-, hfit, ec, -⟩ := res_ok hf
  refine ⟨fun i hi => ?_, fun i hi h0 hb => ?_, fun hs => ?_⟩
  · rw [leakErr_zero, ec, Int.toNat_natCast]
    exact ⟨fun h => h.2.2.2, fun h => ⟨hv, within_yes (by omega), hfit, h⟩⟩
  · have hh := leakErr_hull hi h0
    obtain ⟨-, k1, k2, -⟩ := leak_facts hi h0
    have he := hok.e0
    have hi10 : i < 10 := by have := hok.n2; omega
    obtain ⟨a, ⟨x, hx, ha⟩, e1⟩ := hh.lo
    obtain ⟨b, ⟨y, hy, hb2⟩, e2⟩ := hh.hi
    obtain ⟨p, hp, rfl⟩ := cont_one hok hl hi hx ha
    obtain ⟨q, hq, rfl⟩ := cont_one hok hl hi hy hb2
    have q1 := gK_flow hi10 hp k hk hb
    have q2 := gK_flow hi10 hq k hk hb
    omega
  · have eso : t.soundR = (verd t).sound := by unfold Tst.soundR; rw [if_pos hf]
    have e3 : (verd t).sound = anyB (2 ^ t.n) (fun x => (gR t x).isSome && decide (x = 0)) := sound_fold t (2 ^ t.n)
    rw [eso, e3, anyB_iff] at hs
    obtain ⟨x, hx, hg⟩ := hs
    simp only [Bool.and_eq_true, decide_eq_true_eq] at hg
    obtain ⟨hg, rfl⟩ := hg
    have := (gR_some_iff.1 hg).2
    obtain ⟨p, hp, -⟩ := this
    exact gK_zero hp k hk
end Go.Proofs.YtmeeknmjhlfnaaaDoor
